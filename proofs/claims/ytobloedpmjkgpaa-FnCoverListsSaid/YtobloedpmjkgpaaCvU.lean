/- The program's least minutes of all offices. -/
import Derived.Test.YtobloedpmjkgpaaCvS
namespace Go.Proofs.Ytobloedpmjkgpaa
set_option linter.unusedVariables false
set_option linter.unusedSimpArgs false
open Go.RowKit

theorem own_form0 {w : World} {base e n : Nat} {v : Value} {cs : List Value} (h : w.ownsRow base e 1 v n cs) (hn : 0 < n) : ∃ G C, v = .slice (some ⟨G, 0, none⟩) n C := by
  rcases h.2 with ⟨_, h0⟩ | ⟨g, cap, cur, hv, _⟩
  · omega
  · exact ⟨g, cap, hv⟩
theorem cvT_le {v a : Int} (h : (0 ≤ v ∧ v ≤ 9999) ∨ v = 10000) (ha : a ≤ 9998) : inR (cvT v) 0 a = decide (v ≤ a) := by
  unfold inR cvT
  exact decide_eq_decide.2 (by split <;> omega)
/-- What is asked of slices.Repeat (proved in another text). -/
def RepOK : Prop := ∀ (A : Option Addr) (c : Nat) (w : World), Rd w A (cells1 [-1]) → Calls Try.prog 69 #[.slice A 1 c, .int .i64 10] w (RetOwn 3 1 10 (cells1 (List.replicate 10 (-1))) w)
set_option maxHeartbeats 4000000 in
set_option maxRecDepth 20000 in
theorem earliest_any (CP0 : RepOK) (A : Option Addr) (n c : Nat) (xs : List R4) (f m : Int) (w : World) (hn : xs.length = n) (hA : Rd w A (cells4 xs)) (hg : mlL xs = true) (hf : 0 ≤ f ∧ f ≤ 9) (hm : 0 ≤ m ∧ m ≤ 9999) (h20 : n ≤ 1048576) :
    Calls Try.prog 49 #[.slice A n c, .int .i64 f, .int .i64 m] w (RetOwn 3 1 10 (cells1 (tmI (tmV xs f m))) w) := by
  obtain ⟨nf, hnf⟩ : ∃ nf : Nat, f = (nf : Int) := ⟨f.toNat, by omega⟩
  subst hnf
  have CP := Lib.hid CP0
  clear CP0
  have HA := Lib.hid hA
  have HG := Lib.hid hg
  have HM := Lib.hid hm
  have HN := Lib.hid hn
  clear hA hg hn
  go_enter Try.func49, Try.ntmps49
  go_wp2_with fail
  refine (CP.out _ _ _ (rd_new #[.int .i64 (-1)] 3 rfl)).mono ?_
  rintro e w2 ⟨v2, rfl, o2, b2⟩
  have hbw : Below w.heap.size w w2 := ((Below.refl _ _).alloc (Nat.le_refl _) _).trans (b2.mono (by simp))
  have o3 := own_mono o2 (show w.heap.size ≤ _ by simp)
  obtain ⟨G, C, rfl⟩ := own_form0 o3 (by omega)
  have hnf0 : (0 : Int) ≤ (nf : Int) := by omega
  have hnf1 : (nf : Int) < 10 := by omega
  obtain ⟨v0, d0⟩ : ∃ v0, w2.cell? ⟨G, nf, none⟩ = some v0 := ⟨_, (o3.cellAt nf (by omega)).trans (List.getElem?_eq_getElem (by simp [cells1]; omega))⟩
  have f0 := o3.frozenAt nf
  have HS := Lib.hid (own_set1 o3 nf m)
  have HE : Hid ((List.replicate 10 (-1 : Int)).set nf m = tmI (tmP xs (nf : Int) m 0)) := Lib.hid (by
    have h := tmI_tm0 (nf : Int) hm
    rw [show tmP xs (nf : Int) m 0 = tm0 (nf : Int) m by simp [tmP], h, Int.toNat_natCast])
  rw [HE.out] at HS
  have HB2 := Lib.hid (own_below_set o3 hbw (Nat.le_refl _) hbw.size nf (.int .i64 m))
  have hG2 := (o3.lt G rfl)
  clear HE o2 b2 hbw o3
  go_wp2_with fail
  go_loopw [18, 9] (fun i _ wr => ∃ k : Nat, i = .int .i64 k ∧ k ≤ n ∧ wr.ownsRow w.heap.size 3 1 (.slice (some ⟨G, 0, none⟩) 10 C) 10 (cells1 (tmI (tmP xs (nf : Int) m k))) ∧ Below w.heap.size w wr) (fun i _ _ => n - (intOf i).toNat)
  case atStart => exact ⟨0, rfl, by omega, HS.out, HB2.out⟩
  case round =>
    clear HS HB2 d0 f0 hG2
    obtain ⟨k, rfl, hk, ho, hb⟩ := hrel
    have HO := Lib.hid ho
    have HB := Lib.hid hb
    have hsw := hb.size
    clear ho hb
    by_cases hlt : k < n
    · have hlt' : (k : Int) < (n : Int) := by omega
      have hk0 : (0 : Int) ≤ (k : Int) := by omega
      obtain ⟨x, ex⟩ : ∃ x, xs[k]? = some x := ⟨_, List.getElem?_eq_getElem (by have := HN.out; omega)⟩
      have hB := mlL_at HG.out ex
      obtain ⟨hb1, hb2, -, hb4, hb5⟩ := mlB_bd hB
      have HBX := Lib.hid hB
      obtain ⟨nb, hnb⟩ : ∃ nb : Nat, x.b = (nb : Int) := ⟨x.b.toNat, by omega⟩
      obtain ⟨nc, hnc⟩ : ∃ nc : Nat, x.c = (nc : Int) := ⟨x.c.toNat, by omega⟩
      have hok := tmP_ok HG.out (nf : Int) HM.out k
      obtain ⟨T, hT⟩ : ∃ T, T = tmP xs (nf : Int) m k := ⟨_, rfl⟩
      rw [← hT] at HO hok
      have hTl : T.length = 10 := by rw [hT]; exact tmP_len _ _ _ _
      have HST := Lib.hid (tmP_step (f := (nf : Int)) (m := m) ex)
      rw [← hT] at HST
      obtain ⟨g, o, eA, hgl, c0, c1, c2, c3⟩ := (HA.out.below HB.out).at4 ex
      subst eA
      rw [hnb] at c1
      rw [hnc] at c2
      have hkb := okT_at hok x.b
      have hkc := okT_at hok x.c
      obtain ⟨tb, htb⟩ : ∃ tb, tb = atT T x.b := ⟨_, rfl⟩
      obtain ⟨tc, htc⟩ : ∃ tc, tc = atT T x.c := ⟨_, rfl⟩
      rw [← htb] at hkb
      rw [← htc] at hkc
      obtain ⟨ib, hib⟩ : ∃ ib, ib = cvT tb := ⟨_, rfl⟩
      obtain ⟨ic, hic⟩ : ∃ ic, ic = cvT tc := ⟨_, rfl⟩
      have hzb : (tmI T)[nb]? = some ib := by have h := tmI_at hTl hb1; rw [hnb, Int.toNat_natCast, ← hnb, ← htb, ← hib] at h; exact h
      have hzc : (tmI T)[nc]? = some ic := by have h := tmI_at hTl hb2; rw [hnc, Int.toNat_natCast, ← hnc, ← htc, ← hic] at h; exact h
      have hnb0 : (0 : Int) ≤ (nb : Int) := by omega
      have hnb1 : (nb : Int) < 10 := by omega
      have hnc0 : (0 : Int) ≤ (nc : Int) := by omega
      have hnc1 : (nc : Int) < 10 := by omega
      have rb := own_cell1 HO.out (j := nb) (by omega) hzb
      have rc := own_cell1 HO.out (j := nc) (by omega) hzc
      have HZC := Lib.hid hzc
      have HTB := Lib.hid htb
      have HTC := Lib.hid htc
      have HNC := Lib.hid hnc
      have hGl : G < wr.heap.size := (HO.out.lt _ rfl).2
      have hgl1 : g < wr.heap.size + 1 := by omega
      have hGl1 : G < wr.heap.size + 1 := by omega
      have CR := Lib.hid (fun w => inRange_any ib 0 x.a w)
      have hir : inR ib 0 x.a = decide (tb ≤ x.a) := by rw [hib]; exact cvT_le hkb (by omega)
      rw [hir] at CR
      have HIC := Lib.hid hic
      clear ex hB hT htb htc hzb hzc hib hir hok hic
      by_cases hq : tb ≤ x.a
      · rw [show decide (tb ≤ x.a) = true by simp [hq]] at CR
        by_cases hc : tc = 10000
        · have hi1 : ic = -1 := by rw [HIC.out, cvT, if_pos hc]
          have hl0 : ic < 0 := by omega
          have hl1 : decide (ic < 0) = true := by simp [hl0]
          have HE : Hid ((tmI T).set nc x.d = tmI (tmStep T x)) := Lib.hid (by
            have h := tmI_set HBX.out (by rw [← HTB.out]; exact hq) (by rw [← HTC.out]; omega)
            rw [HNC.out, Int.toNat_natCast] at h; exact h)
          clear hi1
          go_wp2_with fail
          refine wp_region_lat (wr.heap.size + 1) (by kernel_rfl) (by kernel_rfl) ?_
          have LC := fun (u : Lat (wr.heap.size + 1) (wr.alloc (Obj.cells #[Value.int IntKind.i64 x.a, Value.int IntKind.i64 (nb : Int), Value.int IntKind.i64 (nc : Int), Value.int IntKind.i64 x.d] 58))) => u.cell
          repeat (go_big_quiet_step ((go_at_call 55; exact lat_same _ (CR.out _))))
          refine wpQuiet_nil ?_
          intro w1 hb1'
          clear LC
          have hal : Below wr.heap.size wr w1 := ((Below.refl _ _).alloc (Nat.le_refl _) _).trans (hb1'.mono (by omega))
          have HO1 := Lib.hid (own_below HO.out hal)
          have HB1 := Lib.hid (HB.out.trans (hal.mono hsw))
          have hw1 : wr.heap.size < w1.heap.size := by have := hb1'.size; simp at this; omega
          have e0 := (hb1'.cell (p := ⟨wr.heap.size, 0, none⟩) (by simp)).trans (World.cell?_alloc_at _ _ _ _ rfl)
          have e1 := (hb1'.cell (p := ⟨wr.heap.size, 1, none⟩) (by simp)).trans (World.cell?_alloc_at _ _ _ _ rfl)
          have e2 := (hb1'.cell (p := ⟨wr.heap.size, 2, none⟩) (by simp)).trans (World.cell?_alloc_at _ _ _ _ rfl)
          have e3 := (hb1'.cell (p := ⟨wr.heap.size, 3, none⟩) (by simp)).trans (World.cell?_alloc_at _ _ _ _ rfl)
          have rc1 := own_cell1 HO1.out (j := nc) (by omega) HZC.out
          have fc := HO1.out.frozenAt nc
          have hGw : G < w1.heap.size := by omega
          have HO2 := Lib.hid (own_set1 HO1.out nc x.d)
          rw [HE.out] at HO2
          have HB3 := Lib.hid (own_below_set HO1.out HB1.out (Nat.le_refl _) (by have := HB1.out.size; omega) nc (.int .i64 x.d))
          clear rb rc c0 c1 c2 c3 hb1' hal HE
          go_wp2
          go_roundw
          case rel => exact ⟨k + 1, by go_num, by omega, by rw [HST.out]; exact HO2.out, HB3.out⟩
          case measure => simp [intOf]; omega
        · have hi1 : ic = tc := by rw [HIC.out, cvT, if_neg hc]
          have hl0 : ¬ ic < 0 := by omega
          have hl1 : decide (ic < 0) = false := by simp; omega
          by_cases hd : x.d < tc
          · have hd1 : x.d < ic := by omega
            have hd2 : decide (x.d < ic) = true := by simp [hd1]
            have HE : Hid ((tmI T).set nc x.d = tmI (tmStep T x)) := Lib.hid (by
              have h := tmI_set HBX.out (by rw [← HTB.out]; exact hq) (by rw [← HTC.out]; omega)
              rw [HNC.out, Int.toNat_natCast] at h; exact h)
            clear hi1
            go_wp2_with fail
            refine wp_region_lat (wr.heap.size + 1) (by kernel_rfl) (by kernel_rfl) ?_
            have LC := fun (u : Lat (wr.heap.size + 1) (wr.alloc (Obj.cells #[Value.int IntKind.i64 x.a, Value.int IntKind.i64 (nb : Int), Value.int IntKind.i64 (nc : Int), Value.int IntKind.i64 x.d] 58))) => u.cell
            repeat (go_big_quiet_step ((go_at_call 55; exact lat_same _ (CR.out _))))
            refine wpQuiet_nil ?_
            intro w1 hb1'
            clear LC
            have hal : Below wr.heap.size wr w1 := ((Below.refl _ _).alloc (Nat.le_refl _) _).trans (hb1'.mono (by omega))
            have HO1 := Lib.hid (own_below HO.out hal)
            have HB1 := Lib.hid (HB.out.trans (hal.mono hsw))
            have hw1 : wr.heap.size < w1.heap.size := by have := hb1'.size; simp at this; omega
            have e0 := (hb1'.cell (p := ⟨wr.heap.size, 0, none⟩) (by simp)).trans (World.cell?_alloc_at _ _ _ _ rfl)
            have e1 := (hb1'.cell (p := ⟨wr.heap.size, 1, none⟩) (by simp)).trans (World.cell?_alloc_at _ _ _ _ rfl)
            have e2 := (hb1'.cell (p := ⟨wr.heap.size, 2, none⟩) (by simp)).trans (World.cell?_alloc_at _ _ _ _ rfl)
            have e3 := (hb1'.cell (p := ⟨wr.heap.size, 3, none⟩) (by simp)).trans (World.cell?_alloc_at _ _ _ _ rfl)
            have rc1 := own_cell1 HO1.out (j := nc) (by omega) HZC.out
            have fc := HO1.out.frozenAt nc
            have hGw : G < w1.heap.size := by omega
            have HO2 := Lib.hid (own_set1 HO1.out nc x.d)
            rw [HE.out] at HO2
            have HB3 := Lib.hid (own_below_set HO1.out HB1.out (Nat.le_refl _) (by have := HB1.out.size; omega) nc (.int .i64 x.d))
            clear rb rc c0 c1 c2 c3 hb1' hal HE
            go_wp2
            go_roundw
            case rel => exact ⟨k + 1, by go_num, by omega, by rw [HST.out]; exact HO2.out, HB3.out⟩
            case measure => simp [intOf]; omega
          · have hd1 : ¬ x.d < ic := by omega
            have hd2 : decide (x.d < ic) = false := by simp; omega
            have HE : Hid (tmStep T x = T) := Lib.hid (by unfold tmStep; rw [if_neg (by rw [← HTC.out]; omega)])
            clear hi1
            go_wp2_with fail
            refine wp_region_lat (wr.heap.size + 1) (by kernel_rfl) (by kernel_rfl) ?_
            have LC := fun (u : Lat (wr.heap.size + 1) (wr.alloc (Obj.cells #[Value.int IntKind.i64 x.a, Value.int IntKind.i64 (nb : Int), Value.int IntKind.i64 (nc : Int), Value.int IntKind.i64 x.d] 58))) => u.cell
            repeat (go_big_quiet_step ((go_at_call 55; exact lat_same _ (CR.out _))))
            refine wpQuiet_nil ?_
            intro w1 hb1'
            clear LC
            have hal : Below wr.heap.size wr w1 := ((Below.refl _ _).alloc (Nat.le_refl _) _).trans (hb1'.mono (by omega))
            have HO1 := Lib.hid (own_below HO.out hal)
            have HB1 := Lib.hid (HB.out.trans (hal.mono hsw))
            clear hb1' hal
            go_wp2
            go_roundw
            case rel => exact ⟨k + 1, by go_num, by omega, by rw [HST.out, HE.out]; exact HO1.out, HB1.out⟩
            case measure => simp [intOf]; omega
      · rw [show decide (tb ≤ x.a) = false by simp; omega] at CR
        have HE : Hid (tmStep T x = T) := Lib.hid (tmStep_no (by rw [← HTB.out]; omega))
        go_wp2_with fail
        refine wp_region_lat (wr.heap.size + 1) (by kernel_rfl) (by kernel_rfl) ?_
        have LC := fun (u : Lat (wr.heap.size + 1) (wr.alloc (Obj.cells #[Value.int IntKind.i64 x.a, Value.int IntKind.i64 (nb : Int), Value.int IntKind.i64 (nc : Int), Value.int IntKind.i64 x.d] 58))) => u.cell
        repeat (go_big_quiet_step ((go_at_call 55; exact lat_same _ (CR.out _))))
        refine wpQuiet_nil ?_
        intro w1 hb1'
        clear LC
        have hal : Below wr.heap.size wr w1 := ((Below.refl _ _).alloc (Nat.le_refl _) _).trans (hb1'.mono (by omega))
        have HO1 := Lib.hid (own_below HO.out hal)
        have HB1 := Lib.hid (HB.out.trans (hal.mono hsw))
        clear hb1' hal
        go_wp2
        go_roundw
        case rel => exact ⟨k + 1, by go_num, by omega, by rw [HST.out, HE.out]; exact HO1.out, HB1.out⟩
        case measure => simp [intOf]; omega
    · obtain rfl : k = n := by omega
      go_wp2
      go_ret
      have h := HO.out
      rw [← HN.out] at h
      exact ⟨_, rfl, h, HB.out⟩
end Go.Proofs.Ytobloedpmjkgpaa
