/- The reference's chain: the distances of all posts, and the way by them; it is the best path. -/
import Derived.Test.YtnaehlglpaadhaaDoorTreE
import Derived.Test.YtnaehlglpaadhaaDoorList
import Derived.Test.YtnaehlglpaadhaaDoorRise
namespace Go.Proofs.YtnaehlglpaadhaaDoor
set_option linter.unusedVariables false
set_option linter.unusedSimpArgs false
open Go.RowKit

def leastOf (a b : Int) : Int := if a < b then a else b
theorem l1Least_any (a b : Int) (w : World) : Calls Tryd.prog 64 #[.int .i64 a, .int .i64 b] w (RetS (.int .i64 (leastOf a b)) w) := by
  by_cases h : a < b
  · go_enter Tryd.func64, Tryd.ntmps64
    go_wp2
    go_ret
    exact ⟨ret_int (by rw [leastOf, if_pos h]), rfl⟩
  · go_enter Tryd.func64, Tryd.ntmps64
    go_wp2
    go_ret
    exact ⟨ret_int (by rw [leastOf, if_neg (by omega)]), rfl⟩

theorem dAt_get {D : List Int} {m : Nat} {d : Int} (h : D[m]? = some d) : dAt D m = d := by
  unfold dAt; rw [List.getD_eq_getElem?_getD, Int.toNat_natCast, h]; rfl
theorem own_cell1 {w : World} {base e n c g : Nat} {zs : List Int} (ho : w.ownsRow base e 1 (.slice (some ⟨g, 0, none⟩) n c) n (cells1 zs)) {k : Nat} {z : Int} (h : zs[k]? = some z) : w.cell? ⟨g, k, none⟩ = some (.int .i64 z) := by
  have hl := ho.1
  rw [length_cells1] at hl
  have := (List.getElem?_eq_some_iff.1 h).1
  rw [ho.cellAt k (by omega)]
  simp [cells1, h]
theorem nbL_get {xs : List R5} {day u : Int} {i : Nat} {v : Int} (h : (nbL xs day u)[i]? = some v) : adjT xs day u v = true ∧ 0 ≤ v ∧ v ≤ 8 := by
  have hm := List.mem_of_getElem? h
  rw [nbL, List.mem_filter] at hm
  exact ⟨hm.2, mem_posts.1 hm.1⟩

/-- Distances in a row of the call's own, at its first block. -/
def DRow (W : World) (E : Nat) (D : List Int) (wr : World) : Prop :=
  wr.ownsRow W.heap.size E 1 (.slice (some ⟨W.heap.size, 0, none⟩) 9 9) 9 (cells1 D) ∧ Below W.heap.size W wr
theorem DRow.below {W wr w1 : World} {E : Nat} {D : List Int} (h : DRow W E D wr) (hb : Below wr.heap.size wr w1) : DRow W E D w1 := ⟨own_below h.1 hb, h.2.trans (hb.mono h.2.size)⟩
theorem DRow.drew {W wr : World} {E : Nat} {D : List Int} (h : DRow W E D wr) : DRow W E D wr.drew := ⟨(show wr.drew.ownsRow _ _ _ _ _ _ from h.1), h.2.drew⟩
theorem DRow.set {W wr : World} {E : Nat} {D : List Int} (h : DRow W E D wr) (k : Nat) (z : Int) : DRow W E (D.set k z) (wr.setCell ⟨W.heap.size, k, none⟩ (.int .i64 z)) := by
  obtain ⟨h1, h2⟩ := h.1.stored k (.int .i64 z)
  refine ⟨?_, h.2.setCell (Nat.le_refl _) _⟩
  have e : (cells1 D).set k (.int .i64 z) = cells1 (D.set k z) := by simp [cells1, List.map_set]
  rw [e] at h1
  exact h1
def RetDist (adj : Int → Int → Bool) (b : Int) (E : Nat) (W : World) : Ending → World → Prop := fun e w' => ∃ D, e = .returned (.slice (some ⟨W.heap.size, 0, none⟩) 9 9) ∧ Dist adj b D ∧ DRow W E D w'

set_option maxRecDepth 20000 in
set_option maxHeartbeats 4000000 in
theorem l25Steps_any (A : Option Addr) (n c : Nat) (xs : List R5) (t : Nat) (day : Int) (w : World) (hn : xs.length = n) (hA : Rd w A (cells5 xs)) (hv : trL xs = true) (ht : t < 9) :
    Calls Tryd.prog 41 #[.slice A n c, .int .i64 t, .int .i64 day] w (RetDist (adjT xs day) t 3 w) := by
  have hmk : ∀ W, (Instr.makeSlice 27 (.int .i64 9) (.int .i64 9)).run Tryd.prog W = .ok (.slice (some ⟨W.heap.size, 0, none⟩) 9 9) (W.alloc (.cells (madeCells (Value.cells (.int .i64 0)) 9) 3)) :=
    fun W => run_make_info (P := Tryd.prog) 27 3 _ 1 8 Tryd.underlying27 infoInt 9 (by omega) (by omega) W
  have HV := Lib.hid hv
  have h20 : n ≤ 20 := by have := trL_len hv; omega
  have ht0 : (0 : Int) ≤ (t : Int) := by omega
  have ht8 : (t : Int) < 9 := by omega
  clear hv
  go_enter Tryd.func41, Tryd.ntmps41
  go_wp2_with fail
  go_loopw [8] (fun i wr => ∃ k : Nat, k ≤ 9 ∧ i = .int .i64 k ∧ ToRel1 w 3 w.heap.size 9 (List.replicate 9 99) k wr) (fun i _ => 9 - (intOf i).toNat)
  case atStart => exact ⟨0, by omega, rfl, ToRel1.zero (W := w) (E := 3) (zs := List.replicate 9 99) (n := 9) (by omega)⟩
  case round =>
    obtain ⟨k, hk, rfl, hrel⟩ := hrel
    have HR := Lib.hid hrel
    obtain ⟨ho, hb⟩ := hrel
    by_cases hlt : k < 9
    · have hth := own_there ho k 1 (by omega)
      obtain ⟨⟨v0, c0⟩, f0⟩ := (hth 0 (by omega)).imp_left Option.isSome_iff_exists.1
      simp only [Nat.add_zero] at c0 f0
      clear hth ho
      go_wp2
      go_roundw
      case rel => exact ⟨k + 1, by omega, by go_num, HR.out.set (z := 99) (by simp) (by rw [List.getElem?_replicate, if_pos hlt]) (Nat.le_refl _)⟩
      case measure => simp [intOf]; omega
    · have HD0 := Lib.hid (show DRow w 3 (List.replicate 9 99) wr from ⟨HR.out.done (by simp) (by omega), hb⟩)
      have hth := own_there HD0.out.1 t 1 (by omega)
      obtain ⟨⟨v0, c0⟩, f0⟩ := (hth 0 (by omega)).imp_left Option.isSome_iff_exists.1
      simp only [Nat.add_zero] at c0 f0
      clear hth ho
      go_wp2_with fail
      have HD1 := Lib.hid (HD0.out.set t 0)
      have HI1 := Lib.hid (DInv.start (adj := adjT xs day) (b := t) ⟨ht0, by omega⟩)
      go_loopw [9, 10, 11, 12] (fun s _ _ _ wr => ∃ (r : Nat) (D : List Int), r ≤ 9 ∧ s = .int .i64 r ∧ DInv (adjT xs day) t D r 0 [] ∧ DRow w 3 D wr) (fun s _ _ _ _ => 9 - (intOf s).toNat)
      case atStart => exact ⟨0, _, by omega, rfl, HI1.out, HD1.out⟩
      case round =>
        obtain ⟨r, D, hr, rfl, hi, hd⟩ := hrel
        have HI := Lib.hid hi
        have HD := Lib.hid hd
        clear hi hd c0 f0
        by_cases hlr : r < 9
        · have hri : (r : Int) < 9 := by omega
          go_wp2_with fail
          go_loopw [10, 11, 12] (fun s _ _ wr => ∃ (k : Nat) (D : List Int), k ≤ 9 ∧ s = .int .i64 k ∧ DInv (adjT xs day) t D r k [] ∧ DRow w 3 D wr) (fun s _ _ _ => 9 - (intOf s).toNat)
          case atStart => exact ⟨0, D, by omega, rfl, HI.out, HD.out⟩
          case round =>
            obtain ⟨k, D, hk, rfl, hi, hd⟩ := hrel
            have HI := Lib.hid hi
            have HD := Lib.hid hd
            have hb := hd.2
            have hgw := (hd.1.lt w.heap.size rfl).2
            clear hi hd
            by_cases hlk : k < 9
            · go_wp2_with fail
              refine (l25Partners_any A n c xs k day _ hn (hA.below hb) (by omega)).mono ?_
              rintro e w1 ⟨vn, rfl, on, b1⟩
              have HD1 := Lib.hid (HD.out.below b1)
              obtain ⟨An, cn, rfl⟩ := own_form on
              have hlen := nbL_len xs day k
              have hs1 := hb.size
              obtain ⟨m, hm⟩ : ∃ m, m = (nbL xs day k).length := ⟨_, rfl⟩
              rw [← hm] at hlen on
              rw [← hm]
              have HON := Lib.hid on
              have HM := Lib.hid hm
              clear on hm hb
              go_wp2_with fail
              go_loopw [12] (fun s wr' => ∃ (i : Nat) (D : List Int), i ≤ m ∧ s = .int .i64 i ∧ DInv (adjT xs day) t D r k ((nbL xs day k).take i) ∧ DRow w 3 D wr' ∧ wr'.ownsRow wr.heap.size 3 1 (.slice An m cn) m (cells1 (nbL xs day k))) (fun s _ => m - (intOf s).toNat)
              case atStart => exact ⟨0, D, by omega, rfl, HI.out, HD1.out, HON.out⟩
              case round =>
                obtain ⟨i, D, hi0, rfl, hi, hd, on⟩ := hrel
                have HI := Lib.hid hi
                have HD := Lib.hid hd
                have HON := Lib.hid on
                by_cases hli : i < m
                · obtain ⟨v, hv⟩ : ∃ v, (nbL xs day k)[i]? = some v := ⟨(nbL xs day k)[i]'(by have := HM.out; omega), List.getElem?_eq_getElem (by have := HM.out; omega)⟩
                  obtain ⟨hadj, v0, v8⟩ := nbL_get hv
                  obtain ⟨q, rfl⟩ := Int.eq_ofNat_of_zero_le v0
                  have hq9 : q < 9 := by omega
                  have hq9i : (q : Int) < 9 := by omega
                  have hk9i : (k : Int) < 9 := by omega
                  have h9 := hi.size
                  obtain ⟨dk, hdk⟩ : ∃ d, D[k]? = some d := ⟨D[k], List.getElem?_eq_getElem (by omega)⟩
                  obtain ⟨dq, hdq⟩ : ∃ d, D[q]? = some d := ⟨D[q], List.getElem?_eq_getElem (by omega)⟩
                  have ck := own_cell1 hd.1 hdk
                  have cq := own_cell1 hd.1 hdq
                  have fk := hd.1.frozenAt k
                  obtain ⟨gn, o, hAe, hgn, ci⟩ := (Rd.of_own on).at1 hv
                  have hne : gn ≠ w.heap.size := by
                    have := (on.lt gn (by rw [hAe]; rfl)).1
                    omega
                  subst hAe
                  have hbq := hi.bd q (by omega) (by omega)
                  have hbk := hi.bd k (by omega) (by omega)
                  rw [dAt_get hdq] at hbq
                  rw [dAt_get hdk] at hbk
                  have HS := Lib.hid (hi.step (graphT HV.out day) ⟨by omega, by omega⟩ hadj (z := leastOf dk (dq + 1)) (by rw [dAt_get hdk, dAt_get hdq, leastOf]))
                  have HTK := Lib.hid (show (nbL xs day k).take (i + 1) = (nbL xs day k).take i ++ [(q : Int)] by rw [List.take_add_one, hv]; rfl)
                  have C1 := Lib.hid (fun w => l1Least_any dk (dq + 1) w)
                  obtain ⟨z, hz⟩ : ∃ z, z = leastOf dk (dq + 1) := ⟨_, rfl⟩
                  rw [← hz] at C1 HS
                  have hw := IntWalk.i64_in (dq + 1) (by omega)
                  clear hi hd on hadj hz hdk hdq hv
                  go_wp2_with fail
                  refine wp_region_stay_tail 15 (by kernel_rfl) (by kernel_rfl) ?_
                  simp only [List.take_succ_cons, List.take_zero, List.drop_succ_cons, List.drop_zero]
                  repeat still_step
                  still_call ((C1.out _).mono (fun _ _ h => ⟨h.1, h.2.symm⟩))
                  refine wpStill_nil ?_
                  go_wp2
                  have hon := HON.out.kept (HD.out.1.stored k (.int .i64 z)).2 (.inr (fun e => hne (by simpa [Value.ownBlock] using e)))
                  go_roundw
                  case rel => exact ⟨i + 1, _, by omega, by go_num, by rw [HTK.out]; exact HS.out, (HD.out.set k z).drew, hon⟩
                  case measure => simp [intOf]; omega
                · have htk : (nbL xs day k).take i = nbL xs day k := List.take_of_length_le (by have := HM.out; omega)
                  have HI2 := Lib.hid (show DInv (adjT xs day) t D r ((k : Int) + 1) [] from (by rw [htk] at hi; exact hi.nextNode ⟨by omega, by omega⟩ (fun v hv => (mem_nbL HV.out).2 hv)))
                  clear hi hd on htk
                  go_wp2
                  go_roundw
                  case rel => exact ⟨k + 1, D, by omega, by go_num, by rw [show ((k + 1 : Nat) : Int) = (k : Int) + 1 by omega]; exact HI2.out, HD.out⟩
                  case measure => simp [intOf]; omega
            · obtain rfl : k = 9 := by omega
              go_wp2
              go_roundw
              case rel => exact ⟨r + 1, D, by omega, by go_num, HI.out.nextRound, HD.out⟩
              case measure => simp [intOf]; omega
        · obtain rfl : r = 9 := by omega
          go_wp2
          go_ret
          exact ⟨D, rfl, HI.out.done9, HD.out⟩
end Go.Proofs.YtnaehlglpaadhaaDoor
