/- The rate of a letter (both), and the reference's least minutes. -/
import Derived.Test.YtobloedpmjkgpaaCvB
import Derived.Test.YtobloedpmjkgpaaList
namespace Go.Proofs.Ytobloedpmjkgpaa
set_option linter.unusedVariables false
set_option linter.unusedSimpArgs false
open Go.RowKit

theorem l1Least_any (a b : Int) (w : World) : Calls Try.prog 74 #[.int .i64 a, .int .i64 b] w (RetS (.int .i64 (if b < a then b else a)) w) := by
  by_cases h : a < b
  · rw [show (if b < a then b else a) = a by split <;> omega]
    go_enter Try.func74, Try.ntmps74
    go_wp2
    go_ret
    exact ⟨rfl, rfl⟩
  · have h' : b ≤ a := by omega
    rw [show (if b < a then b else a) = b by split <;> omega]
    go_enter Try.func74, Try.ntmps74
    go_wp2
    go_ret
    exact ⟨rfl, rfl⟩
theorem own_cell1 {w : World} {base E G n C : Nat} {T : List Int} (h : w.ownsRow base E 1 (.slice (some ⟨G, 0, none⟩) n C) n (cells1 T)) {j : Nat} {z : Int} (hj : j < n) (hz : T[j]? = some z) : w.cell? ⟨G, j, none⟩ = some (.int .i64 z) :=
  (h.cellAt j (by omega)).trans (by simp [cells1, hz])
theorem own_set1 {w : World} {base E G n C : Nat} {T : List Int} (h : w.ownsRow base E 1 (.slice (some ⟨G, 0, none⟩) n C) n (cells1 T)) (j : Nat) (z : Int) : (w.setCell ⟨G, j, none⟩ (.int .i64 z)).ownsRow base E 1 (.slice (some ⟨G, 0, none⟩) n C) n (cells1 (T.set j z)) := by
  have := (h.stored j (.int .i64 z)).1
  rw [show (cells1 T).set j (.int .i64 z) = cells1 (T.set j z) by simp [cells1, List.map_set]] at this
  exact this
theorem own_below_set {w0 w : World} {base E G n C B : Nat} {cs : List Value} (h : w.ownsRow base E 1 (.slice (some ⟨G, 0, none⟩) n C) n cs) (hb : Below B w0 w) (hB : B ≤ base) (hs : B ≤ w.heap.size) (j : Nat) (v : Value) : Below B w0 (w.setCell ⟨G, j, none⟩ v) := by
  have hG := (h.lt G rfl).1
  exact hb.trans ((Below.refl B w).grown (h.stored j v).2 hs (fun k hk => by injection hk with hk; omega))


set_option maxHeartbeats 4000000 in
set_option maxRecDepth 20000 in
theorem l9Times_any (A : Option Addr) (n c : Nat) (xs : List R4) (f m : Int) (w : World) (hn : xs.length = n) (hA : Rd w A (cells4 xs)) (hg : ∀ x ∈ xs, mlB x = true) (hf : 0 ≤ f ∧ f ≤ 9) (hm : 0 ≤ m ∧ m ≤ 9999) (h20 : n ≤ 1048576) :
    Calls Try.prog 54 #[.slice A n c, .int .i64 f, .int .i64 m] w (RetOwn 3 1 10 (cells1 (tmV xs f m)) w) := by
  obtain ⟨nf, hnf⟩ : ∃ nf : Nat, f = (nf : Int) := ⟨f.toNat, by omega⟩
  subst hnf
  obtain ⟨ar, har⟩ : ∃ ar, ar = madeCells (Value.cells (.int .i64 0)) 10 := ⟨_, rfl⟩
  have hmk : ∀ W, (Instr.makeSlice 29 (.int .i64 10) (.int .i64 10)).run Try.prog W = .ok (.slice (some ⟨W.heap.size, 0, none⟩) 10 10) (W.alloc (.cells ar 3)) := fun W => by
    rw [har]
    have h := run_make_info (P := Try.prog) 29 3 _ 1 8 Try.underlying29 infoI 10 (by omega) (by omega) W
    rw [Nat.mul_one] at h; exact h
  have HZ : Hid ((w.alloc (.cells ar 3)).ownsRow w.heap.size 3 1 (.slice (some ⟨w.heap.size, 0, none⟩) 10 10) 10 (cells1 (List.replicate 0 10000 ++ List.replicate 10 0))) := Lib.hid (by
    have h := own_made w w.heap.size 3 1 10 (Value.cells (.int .i64 0)) (Nat.le_refl _) (by unfold maxLen; omega)
    rw [Nat.mul_one, ← har] at h
    have e : ar.toList = cells1 (List.replicate 0 10000 ++ List.replicate 10 0) := by rw [har, show Value.cells (.int .i64 0) = #[.int .i64 0] from rfl, toList_madeCells_one]; simp [cells1]
    rw [e] at h; exact h)
  have HA := Lib.hid hA
  have HG := Lib.hid hg
  have HN := Lib.hid hn
  clear har hA hg hn
  go_enter Try.func54, Try.ntmps54
  go_wp2_with fail
  go_loopw [8] (fun i wr => ∃ k : Nat, i = .int .i64 k ∧ k ≤ 10 ∧ wr.ownsRow w.heap.size 3 1 (.slice (some ⟨w.heap.size, 0, none⟩) 10 10) 10 (cells1 (List.replicate k 10000 ++ List.replicate (10 - k) 0)) ∧ Below w.heap.size w wr) (fun i _ => 10 - (intOf i).toNat)
  case atStart => exact ⟨0, rfl, by omega, HZ.out, (Below.refl _ _).alloc (Nat.le_refl _) _⟩
  case round =>
    clear HZ
    obtain ⟨wO, hwO⟩ : ∃ x, x = wr := ⟨wr, rfl⟩
    subst hwO
    obtain ⟨k, rfl, hk, ho, hb⟩ := hrel
    have HO := Lib.hid ho
    have HB := Lib.hid hb
    have hsz := hb.size
    clear ho hb
    by_cases hk10 : k < 10
    · have hk' : (k : Int) < 10 := by omega
      have hk0 : (0 : Int) ≤ (k : Int) := by omega
      obtain ⟨v0, d0⟩ : ∃ v0, wO.cell? ⟨w.heap.size, k, none⟩ = some v0 := ⟨_, (HO.out.cellAt k (by omega)).trans (List.getElem?_eq_getElem (by simp [cells1]; omega))⟩
      have f0 := HO.out.frozenAt k
      have HS := Lib.hid (own_set1 HO.out k 10000)
      have HE : Hid ((List.replicate k (10000 : Int) ++ List.replicate (10 - k) 0).set k 10000 = List.replicate (k + 1) 10000 ++ List.replicate (10 - (k + 1)) 0) := Lib.hid (by
        rw [List.set_append_right _ _ (by simp), List.length_replicate, Nat.sub_self, show 10 - k = (10 - (k + 1)) + 1 by omega, List.replicate_succ, List.set_cons_zero, List.replicate_succ', List.append_assoc]; rfl)
      rw [HE.out] at HS
      have HB2 := Lib.hid (own_below_set HO.out HB.out (Nat.le_refl _) hsz k (.int .i64 10000))
      go_wp2
      go_roundw
      case rel => exact ⟨k + 1, by go_num, by omega, HS.out, HB2.out⟩
      case measure => simp [intOf]; omega
    · obtain rfl : k = 10 := by omega
      rw [show ((10 : Nat) : Int) = 10 from rfl]
      obtain ⟨v0, d0⟩ : ∃ v0, wO.cell? ⟨w.heap.size, nf, none⟩ = some v0 := ⟨_, (HO.out.cellAt nf (by omega)).trans (List.getElem?_eq_getElem (by simp [cells1]; omega))⟩
      have f0 := HO.out.frozenAt nf
      have hnf0 : (0 : Int) ≤ (nf : Int) := by omega
      have hnf1 : (nf : Int) < 10 := by omega
      have HS := Lib.hid (own_set1 HO.out nf m)
      have HE : Hid ((List.replicate 10 (10000 : Int) ++ List.replicate (10 - 10) 0).set nf m = tmP xs (nf : Int) m 0) := Lib.hid (by simp [tmP, tm0])
      rw [HE.out] at HS
      have HB2 := Lib.hid (own_below_set HO.out HB.out (Nat.le_refl _) hsz nf (.int .i64 m))
      clear HE HO HB
      go_wp2_with fail
      go_loopw [9, 10] (fun i _ wr => ∃ k : Nat, i = .int .i64 k ∧ k ≤ n ∧ wr.ownsRow w.heap.size 3 1 (.slice (some ⟨w.heap.size, 0, none⟩) 10 10) 10 (cells1 (tmP xs (nf : Int) m k)) ∧ Below w.heap.size w wr) (fun i _ _ => n - (intOf i).toNat)
      case atStart => exact ⟨0, rfl, by omega, HS.out, HB2.out⟩
      case round =>
        clear HS HB2 d0 f0
        obtain ⟨k, rfl, hk, ho, hb⟩ := hrel
        have HO := Lib.hid ho
        have HB := Lib.hid hb
        have hsw := hb.size
        clear ho hb
        by_cases hlt : k < n
        · have hlt' : (k : Int) < (n : Int) := by omega
          have hk0 : (0 : Int) ≤ (k : Int) := by omega
          obtain ⟨x, ex⟩ : ∃ x, xs[k]? = some x := ⟨_, List.getElem?_eq_getElem (by have := HN.out; omega)⟩
          have hB := HG.out x (List.mem_of_getElem? ex)
          obtain ⟨hb1, hb2, -, hb4, hb5⟩ := mlB_bd hB
          have HBX := Lib.hid hB
          obtain ⟨nb, hnb⟩ : ∃ nb : Nat, x.b = (nb : Int) := ⟨x.b.toNat, by omega⟩
          obtain ⟨nc, hnc⟩ : ∃ nc : Nat, x.c = (nc : Int) := ⟨x.c.toNat, by omega⟩
          obtain ⟨T, hT⟩ : ∃ T, T = tmP xs (nf : Int) m k := ⟨_, rfl⟩
          rw [← hT] at HO
          have hTl : T.length = 10 := by rw [hT]; exact tmP_len _ _ _ _
          have HST := Lib.hid (tmP_step (f := (nf : Int)) (m := m) ex)
          rw [← hT] at HST
          obtain ⟨g, o, eA, hgl, c0, c1, c2, c3⟩ := (HA.out.below HB.out).at4 ex
          subst eA
          rw [hnb] at c1
          rw [hnc] at c2
          obtain ⟨tb, htb⟩ : ∃ tb, tb = atT T x.b := ⟨_, rfl⟩
          obtain ⟨tc, htc⟩ : ∃ tc, tc = atT T x.c := ⟨_, rfl⟩
          have hzb : T[nb]? = some tb := by have h := tm_at hTl hb1; rw [hnb, Int.toNat_natCast, ← hnb, ← htb] at h; exact h
          have hzc : T[nc]? = some tc := by have h := tm_at hTl hb2; rw [hnc, Int.toNat_natCast, ← hnc, ← htc] at h; exact h
          have hnb0 : (0 : Int) ≤ (nb : Int) := by omega
          have hnb1 : (nb : Int) < 10 := by omega
          have hnc0 : (0 : Int) ≤ (nc : Int) := by omega
          have hnc1 : (nc : Int) < 10 := by omega
          have rb := own_cell1 HO.out (j := nb) (by omega) hzb
          have HZC := Lib.hid hzc
          have HTB := Lib.hid htb
          have HTC := Lib.hid htc
          have HNC := Lib.hid hnc
          have hGl : w.heap.size < wr.heap.size := (HO.out.lt _ rfl).2
          have hgl1 : g < wr.heap.size + 1 := by omega
          have hGl1 : w.heap.size < wr.heap.size + 1 := by omega
          clear ex hB hT htb htc hzb hzc
          by_cases hq : tb ≤ x.a
          · have hq1 : decide (tb ≤ x.a) = true := by simp [hq]
            go_wp2_with fail
            refine wp_region_lat (wr.heap.size + 1) (by kernel_rfl) (by kernel_rfl) ?_
            have LC := fun (u : Lat (wr.heap.size + 1) (wr.alloc (Obj.cells #[Value.int IntKind.i64 x.a, Value.int IntKind.i64 (nb : Int), Value.int IntKind.i64 (nc : Int), Value.int IntKind.i64 x.d] 58))) => u.cell
            repeat (go_big_quiet_step (fail))
            refine wpQuiet_nil ?_
            intro w1 hb1'
            clear LC
            have hal : Below wr.heap.size wr w1 := ((Below.refl _ _).alloc (Nat.le_refl _) _).trans (hb1'.mono (by omega))
            have HO1 := Lib.hid (own_below HO.out hal)
            have HB1 := Lib.hid (HB.out.trans (hal.mono hsw))
            have hw1 : wr.heap.size < w1.heap.size := by have := hb1'.size; simp at this; omega
            have e0 := (hb1'.cell (p := ⟨wr.heap.size, 0, none⟩) (by simp)).trans (World.cell?_alloc_at _ _ _ _ rfl)
            have e1 := (hb1'.cell (p := ⟨wr.heap.size, 1, none⟩) (by simp)).trans (World.cell?_alloc_at _ _ _ _ rfl)
            have e2 := (hb1'.cell (p := ⟨wr.heap.size, 2, none⟩) (by simp)).trans (World.cell?_alloc_at _ _ _ _ rfl)
            have e3 := (hb1'.cell (p := ⟨wr.heap.size, 3, none⟩) (by simp)).trans (World.cell?_alloc_at _ _ _ _ rfl)
            have rc := own_cell1 HO1.out (j := nc) (by omega) HZC.out
            have fc := HO1.out.frozenAt nc
            have hGw : w.heap.size < w1.heap.size := by omega
            obtain ⟨lv, hlv⟩ : ∃ lv, lv = if x.d < tc then x.d else tc := ⟨_, rfl⟩
            have CL := Lib.hid (fun w => l1Least_any tc x.d w)
            rw [← hlv] at CL
            have HE : Hid (T.set nc lv = tmStep T x) := Lib.hid (by
              have h := tmStep_min hTl HBX.out (by rw [← HTB.out]; exact hq)
              rw [← HTC.out, ← hlv, HNC.out, Int.toNat_natCast] at h
              exact h)
            have HO2 := Lib.hid (own_set1 (show w1.drew.ownsRow w.heap.size 3 1 (.slice (some ⟨w.heap.size, 0, none⟩) 10 10) 10 (cells1 T) from HO1.out) nc lv)
            rw [HE.out] at HO2
            have HB3 := Lib.hid (own_below_set (show w1.drew.ownsRow w.heap.size 3 1 (.slice (some ⟨w.heap.size, 0, none⟩) 10 10) 10 (cells1 T) from HO1.out) HB1.out.drew (Nat.le_refl _) (by simpa using Nat.le_of_lt hGw) nc (.int .i64 lv))
            clear rb c0 c1 c2 c3 hlv hb1' hal HE
            go_wp2_with fail
            refine wp_region_stay_tail 11 (by kernel_rfl) (by kernel_rfl) ?_
            simp only [List.take_succ_cons, List.take_zero, List.drop_succ_cons, List.drop_zero]
            still_step
            still_step
            still_step
            still_step
            still_step
            still_step
            still_step
            still_step
            still_step
            still_step
            still_call ((CL.out _).mono (fun _ _ h => ⟨h.1, h.2.symm⟩))
            refine wpStill_nil ?_
            go_wp2
            go_roundw
            case rel => exact ⟨k + 1, by go_num, by omega, by rw [HST.out]; exact HO2.out, HB3.out⟩
            case measure => simp [intOf]; omega
          · have hq1 : decide (tb ≤ x.a) = false := by simp; omega
            have HE : Hid (tmStep T x = T) := Lib.hid (tmStep_no (by rw [← HTB.out]; omega))
            go_wp2_with fail
            refine wp_region_lat (wr.heap.size + 1) (by kernel_rfl) (by kernel_rfl) ?_
            have LC := fun (u : Lat (wr.heap.size + 1) (wr.alloc (Obj.cells #[Value.int IntKind.i64 x.a, Value.int IntKind.i64 (nb : Int), Value.int IntKind.i64 (nc : Int), Value.int IntKind.i64 x.d] 58))) => u.cell
            repeat (go_big_quiet_step (fail))
            refine wpQuiet_nil ?_
            intro w1 hb1'
            clear LC
            have hal : Below wr.heap.size wr w1 := ((Below.refl _ _).alloc (Nat.le_refl _) _).trans (hb1'.mono (by omega))
            have HO1 := Lib.hid (own_below HO.out hal)
            have HB1 := Lib.hid (HB.out.trans (hal.mono hsw))
            clear hb1' hal
            go_wp2
            go_roundw
            case rel => exact ⟨k + 1, by go_num, by omega, by rw [HST.out, HE.out]; exact HO1.out, HB1.out⟩
            case measure => simp [intOf]; omega
        · obtain rfl : k = n := by omega
          go_wp2
          go_ret
          have h := HO.out
          rw [← HN.out] at h
          exact ⟨_, rfl, h, HB.out⟩

end Go.Proofs.Ytobloedpmjkgpaa
