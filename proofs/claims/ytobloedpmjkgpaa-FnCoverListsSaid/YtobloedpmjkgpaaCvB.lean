/- Lists of rates, mails and covers: the program's and the reference's tests. -/
import Derived.Test.YtobloedpmjkgpaaCvA
namespace Go.Proofs.Ytobloedpmjkgpaa
set_option linter.unusedVariables false
set_option linter.unusedSimpArgs false
open Go.RowKit

def rtCmp (x y : R5) : Int := orV [cmpV x.a y.a, cmpV x.b y.b]
theorem rt_impl (y x : R5) : rtBef y x = !(decide (0 < rtCmp y x) || (decide (rtCmp y x = 0) && decide (x.c ≤ y.d))) := by
  rw [Bool.eq_iff_iff]; simp only [rtCmp, orV, cmpV, rtBef, decide_eq_true_eq, Bool.not_eq_true', Bool.or_eq_false_iff, Bool.and_eq_false_iff, decide_eq_false_iff_not]
  grind
def mlCmp (x y : R4) : Int := orV [cmpV x.a y.a, cmpV x.b y.b, cmpV x.c y.c, cmpV x.d y.d]
theorem ml_impl (y x : R4) : mlLess y x = !decide (0 ≤ mlCmp y x) := by
  rw [Bool.eq_iff_iff]; simp only [mlCmp, orV, cmpV, mlLess, decide_eq_true_eq, Bool.not_eq_true', decide_eq_false_iff_not]
  grind

set_option maxHeartbeats 4000000 in
set_option maxRecDepth 20000 in
theorem areRates_any (A : Option Addr) (n c : Nat) (xs : List R5) (w : World) (hn : xs.length = n) (hA : Rd w A (cells5 xs)) (h20 : n ≤ 1048576) :
    Calls Try.prog 21 #[.slice A n c] w (Ret (.bool (rtL xs)) w) := by
  go_enter Try.func21, Try.ntmps21
  go_wp2_with fail
  go_loopw [9, 2, 3, 4, 5, 6] (fun i r _ _ _ _ wr => ∃ (k : Nat), k ≤ n ∧ i = .int .i64 k ∧ r = .bool false ∧ ARel rtB rtBef xs k ∧ Below w.heap.size w wr) (fun i _ _ _ _ _ _ => n - (intOf i).toNat)
  case atStart => exact ⟨0, by omega, rfl, rfl, .zero, Below.refl _ _⟩
  case round =>
    obtain ⟨k, hk, rfl, rfl, hrel, hb⟩ := hrel
    have HR := Lib.hid hrel
    clear hrel
    by_cases hlt : k < n
    · obtain ⟨x, hxk⟩ : ∃ x, xs[k]? = some x := ⟨xs[k], List.getElem?_eq_getElem (by omega)⟩
      obtain ⟨g, o, hAe, hg, c0, c1, c2, c3, c4⟩ := (hA.below hb).at5 hxk
      subst hAe
      have HX := Lib.hid hxk
      have C1 := Lib.hid (fun w => isRate_any x w)
      clear hxk
      cases hv : rtB x with
      | false =>
        rw [hv] at C1
        have HV := Lib.hid (okA_no (bef := rtBef) HX.out hv)
        clear hv
        go_wp2_with fail
        refine (C1.out _).mono ?_
        rintro e w1 ⟨rfl, b1⟩
        have hB1 : Below w.heap.size w w1 := (hb.alloc hb.size _).trans (b1.mono (by have := hb.size; simp; omega))
        go_wp2
        go_ret
        exact ⟨ret_bool (rtL_no (k := k) (by omega) HV.out).symm, hB1⟩
      | true =>
        rw [hv] at C1
        have HV := Lib.hid hv
        clear hv
        go_wp2_with fail
        refine (C1.out _).mono ?_
        rintro e w1 ⟨rfl, b1⟩
        have hB1 : Below w.heap.size w w1 := (hb.alloc hb.size _).trans (b1.mono (by have := hb.size; simp; omega))
        have hw1 : wr.heap.size < w1.heap.size := by have := b1.size; simp at this; omega
        have e0 := (b1.cell (p := ⟨wr.heap.size, 0, none⟩) (by simp)).trans (World.cell?_alloc_at _ _ _ _ rfl)
        have e1 := (b1.cell (p := ⟨wr.heap.size, 1, none⟩) (by simp)).trans (World.cell?_alloc_at _ _ _ _ rfl)
        have e2 := (b1.cell (p := ⟨wr.heap.size, 2, none⟩) (by simp)).trans (World.cell?_alloc_at _ _ _ _ rfl)
        have e3 := (b1.cell (p := ⟨wr.heap.size, 3, none⟩) (by simp)).trans (World.cell?_alloc_at _ _ _ _ rfl)
        have e4 := (b1.cell (p := ⟨wr.heap.size, 4, none⟩) (by simp)).trans (World.cell?_alloc_at _ _ _ _ rfl)
        clear c0 c1 c2 c3 c4
        by_cases h0 : k = 0
        · subst h0
          have HN := Lib.hid (okA_first (bef := rtBef) HX.out HV.out rfl)
          go_wp2
          go_roundw
          case rel => exact ⟨1, by omega, by go_num, rfl, HR.out.step HN.out, hB1⟩
          case measure => simp [intOf]; omega
        · obtain ⟨y, hyk⟩ : ∃ y, xs[k - 1]? = some y := ⟨xs[k - 1], List.getElem?_eq_getElem (by omega)⟩
          obtain ⟨g', o', hA', hg1, d0, d1, d2, d3, d4⟩ := (hA.below hB1).at5 hyk
          injection hA' with hA'
          injection hA' with hA1 hA2
          subst hA1; subst hA2
          have hp : 0 < k := by omega
          have hk0 : ((k : Int) == 0) = false := by simp; omega

          obtain ⟨p, hhp⟩ : ∃ p, p = cmpV y.a x.a := ⟨_, rfl⟩
          have Kp := Lib.hid (fun w => compareInt_any y.a x.a w)
          rw [← hhp] at Kp
          obtain ⟨q, hhq⟩ : ∃ q, q = cmpV y.b x.b := ⟨_, rfl⟩
          have Kq := Lib.hid (fun w => compareInt_any y.b x.b w)
          rw [← hhq] at Kq
          obtain ⟨z, hz⟩ : ∃ z, z = rtCmp y x := ⟨_, rfl⟩
          have hz2 : orV [p, q] = z := by rw [hz, rtCmp, hhp, hhq]
          have KO := Lib.hid (fun A w h => orInt_any A 2 2 [p, q] w rfl h (by omega))
          rw [hz2] at KO
          have HN := Lib.hid ((okA_next (bef := rtBef) HX.out HV.out (by omega) hyk).trans (rt_impl y x))
          rw [← hz] at HN
          clear hyk hz2 hz hhp hhq
          by_cases z0 : 0 < z
          · have hd1 : decide (0 < z) = true := by simp [z0]
            have HN1 := Lib.hid (HN.out.trans (show _ = false by rw [hd1]; rfl))
            go_wp2_with fail
            refine wp_region_stay_tail 10 (by kernel_rfl) (by kernel_rfl) ?_
            simp only [List.take_succ_cons, List.take_zero, List.drop_succ_cons, List.drop_zero]
            still_step
            still_step
            still_step
            still_step
            still_call ((Kp.out _).mono (fun _ _ h => ⟨h.1, h.2.symm⟩))
            still_step
            still_step
            still_step
            still_step
            still_call ((Kq.out _).mono (fun _ _ h => ⟨h.1, h.2.symm⟩))
            refine wpStill_nil ?_
            go_wp2_with fail
            refine (KO.out _ _ ?_).mono ?_
            · exact (rd_new #[.int .i64 p, .int .i64 q] 3 (by simp)).drew
            rintro e w2 ⟨rfl, rfl⟩
            go_wp2
            go_ret
            exact ⟨ret_bool (rtL_no (k := k) (by omega) HN1.out).symm, ((hB1.alloc hB1.size _).alloc (by have := hB1.size; simp; omega) _).drew⟩
          · have hd1 : decide (0 < z) = false := by simp; omega
            by_cases z1 : z = 0
            · subst z1
              by_cases hcd : x.c ≤ y.d
              · have hd2 : decide (x.c ≤ y.d) = true := by simp [hcd]
                have HN1 := Lib.hid (HN.out.trans (show _ = false by rw [hd2]; rfl))
                go_wp2_with fail
                refine wp_region_stay_tail 10 (by kernel_rfl) (by kernel_rfl) ?_
                simp only [List.take_succ_cons, List.take_zero, List.drop_succ_cons, List.drop_zero]
                still_step
                still_step
                still_step
                still_step
                still_call ((Kp.out _).mono (fun _ _ h => ⟨h.1, h.2.symm⟩))
                still_step
                still_step
                still_step
                still_step
                still_call ((Kq.out _).mono (fun _ _ h => ⟨h.1, h.2.symm⟩))
                refine wpStill_nil ?_
                go_wp2_with fail
                refine (KO.out _ _ ?_).mono ?_
                · exact (rd_new #[.int .i64 p, .int .i64 q] 3 (by simp)).drew
                rintro e w2 ⟨rfl, rfl⟩
                go_wp2
                go_ret
                exact ⟨ret_bool (rtL_no (k := k) (by omega) HN1.out).symm, ((hB1.alloc hB1.size _).alloc (by have := hB1.size; simp; omega) _).drew⟩
              · have hd2 : decide (x.c ≤ y.d) = false := by simp; omega
                have HN1 := Lib.hid (HN.out.trans (show _ = true by rw [hd2]; rfl))
                go_wp2_with fail
                refine wp_region_stay_tail 10 (by kernel_rfl) (by kernel_rfl) ?_
                simp only [List.take_succ_cons, List.take_zero, List.drop_succ_cons, List.drop_zero]
                still_step
                still_step
                still_step
                still_step
                still_call ((Kp.out _).mono (fun _ _ h => ⟨h.1, h.2.symm⟩))
                still_step
                still_step
                still_step
                still_step
                still_call ((Kq.out _).mono (fun _ _ h => ⟨h.1, h.2.symm⟩))
                refine wpStill_nil ?_
                go_wp2_with fail
                refine (KO.out _ _ ?_).mono ?_
                · exact (rd_new #[.int .i64 p, .int .i64 q] 3 (by simp)).drew
                rintro e w2 ⟨rfl, rfl⟩
                go_wp2
                go_roundw
                case rel => exact ⟨k + 1, by omega, by go_num, rfl, HR.out.step HN1.out, ((hB1.alloc hB1.size _).alloc (by have := hB1.size; simp; omega) _).drew⟩
                case measure => simp [intOf]; omega
            · have hz3 : (z == 0) = false := by simp [z1]
              have hz4 : decide (z = 0) = false := by simp [z1]
              have HN1 := Lib.hid (HN.out.trans (show _ = true by rw [hd1, hz4]; rfl))
              go_wp2_with fail
              refine wp_region_stay_tail 10 (by kernel_rfl) (by kernel_rfl) ?_
              simp only [List.take_succ_cons, List.take_zero, List.drop_succ_cons, List.drop_zero]
              still_step
              still_step
              still_step
              still_step
              still_call ((Kp.out _).mono (fun _ _ h => ⟨h.1, h.2.symm⟩))
              still_step
              still_step
              still_step
              still_step
              still_call ((Kq.out _).mono (fun _ _ h => ⟨h.1, h.2.symm⟩))
              refine wpStill_nil ?_
              go_wp2_with fail
              refine (KO.out _ _ ?_).mono ?_
              · exact (rd_new #[.int .i64 p, .int .i64 q] 3 (by simp)).drew
              rintro e w2 ⟨rfl, rfl⟩
              go_wp2
              go_roundw
              case rel => exact ⟨k + 1, by omega, by go_num, rfl, HR.out.step HN1.out, ((hB1.alloc hB1.size _).alloc (by have := hB1.size; simp; omega) _).drew⟩
              case measure => simp [intOf]; omega

    · go_wp2
      go_ret
      exact ⟨ret_bool (rtL_end HR.out hn (by omega)), hb⟩

set_option maxHeartbeats 4000000 in
set_option maxRecDepth 20000 in
theorem isTimetable_any (A : Option Addr) (n c : Nat) (xs : List R4) (w : World) (hn : xs.length = n) (hA : Rd w A (cells4 xs)) (h20 : n ≤ 1048576) (hsm : ∀ x ∈ xs, sm4 x) :
    Calls Try.prog 22 #[.slice A n c] w (Ret (.bool (mlL xs)) w) := by
  go_enter Try.func22, Try.ntmps22
  go_wp2_with fail
  go_loopw [8, 2, 3, 4, 5] (fun i r _ _ _ wr => ∃ (k : Nat), k ≤ n ∧ i = .int .i64 k ∧ r = .bool false ∧ ARel mlB mlLess xs k ∧ Below w.heap.size w wr) (fun i _ _ _ _ _ => n - (intOf i).toNat)
  case atStart => exact ⟨0, by omega, rfl, rfl, .zero, Below.refl _ _⟩
  case round =>
    obtain ⟨k, hk, rfl, rfl, hrel, hb⟩ := hrel
    have HR := Lib.hid hrel
    clear hrel
    by_cases hlt : k < n
    · obtain ⟨x, hxk⟩ : ∃ x, xs[k]? = some x := ⟨xs[k], List.getElem?_eq_getElem (by omega)⟩
      obtain ⟨g, o, hAe, hg, c0, c1, c2, c3⟩ := (hA.below hb).at4 hxk
      subst hAe
      have HX := Lib.hid hxk
      have C1 := Lib.hid (fun w => isMail_any x w (hsm x (List.mem_of_getElem? hxk)).2.2.2)
      clear hxk
      cases hv : mlB x with
      | false =>
        rw [hv] at C1
        have HV := Lib.hid (okA_no (bef := mlLess) HX.out hv)
        clear hv
        go_wp2_with fail
        refine (C1.out _).mono ?_
        rintro e w1 ⟨rfl, b1⟩
        have hB1 : Below w.heap.size w w1 := (hb.alloc hb.size _).trans (b1.mono (by have := hb.size; simp; omega))
        go_wp2
        go_ret
        exact ⟨ret_bool (mlL_no (k := k) (by omega) HV.out).symm, hB1⟩
      | true =>
        rw [hv] at C1
        have HV := Lib.hid hv
        clear hv
        go_wp2_with fail
        refine (C1.out _).mono ?_
        rintro e w1 ⟨rfl, b1⟩
        have hB1 : Below w.heap.size w w1 := (hb.alloc hb.size _).trans (b1.mono (by have := hb.size; simp; omega))
        have hw1 : wr.heap.size < w1.heap.size := by have := b1.size; simp at this; omega
        have e0 := (b1.cell (p := ⟨wr.heap.size, 0, none⟩) (by simp)).trans (World.cell?_alloc_at _ _ _ _ rfl)
        have e1 := (b1.cell (p := ⟨wr.heap.size, 1, none⟩) (by simp)).trans (World.cell?_alloc_at _ _ _ _ rfl)
        have e2 := (b1.cell (p := ⟨wr.heap.size, 2, none⟩) (by simp)).trans (World.cell?_alloc_at _ _ _ _ rfl)
        have e3 := (b1.cell (p := ⟨wr.heap.size, 3, none⟩) (by simp)).trans (World.cell?_alloc_at _ _ _ _ rfl)
        clear c0 c1 c2 c3
        by_cases h0 : k = 0
        · subst h0
          have HN := Lib.hid (okA_first (bef := mlLess) HX.out HV.out rfl)
          go_wp2
          go_roundw
          case rel => exact ⟨1, by omega, by go_num, rfl, HR.out.step HN.out, hB1⟩
          case measure => simp [intOf]; omega
        · obtain ⟨y, hyk⟩ : ∃ y, xs[k - 1]? = some y := ⟨xs[k - 1], List.getElem?_eq_getElem (by omega)⟩
          obtain ⟨g', o', hA', hg1, d0, d1, d2, d3⟩ := (hA.below hB1).at4 hyk
          injection hA' with hA'
          injection hA' with hA1 hA2
          subst hA1; subst hA2
          have hp : 0 < k := by omega
          have hk0 : ((k : Int) == 0) = false := by simp; omega

          obtain ⟨p, hhp⟩ : ∃ p, p = cmpV y.a x.a := ⟨_, rfl⟩
          have Kp := Lib.hid (fun w => compareInt_any y.a x.a w)
          rw [← hhp] at Kp
          obtain ⟨q, hhq⟩ : ∃ q, q = cmpV y.b x.b := ⟨_, rfl⟩
          have Kq := Lib.hid (fun w => compareInt_any y.b x.b w)
          rw [← hhq] at Kq
          obtain ⟨r, hhr⟩ : ∃ r, r = cmpV y.c x.c := ⟨_, rfl⟩
          have Kr := Lib.hid (fun w => compareInt_any y.c x.c w)
          rw [← hhr] at Kr
          obtain ⟨s, hhs⟩ : ∃ s, s = cmpV y.d x.d := ⟨_, rfl⟩
          have Ks := Lib.hid (fun w => compareInt_any y.d x.d w)
          rw [← hhs] at Ks
          obtain ⟨z, hz⟩ : ∃ z, z = mlCmp y x := ⟨_, rfl⟩
          have hz2 : orV [p, q, r, s] = z := by rw [hz, mlCmp, hhp, hhq, hhr, hhs]
          have KO := Lib.hid (fun A w h => orInt_any A 4 4 [p, q, r, s] w rfl h (by omega))
          rw [hz2] at KO
          have HN := Lib.hid ((okA_next (bef := mlLess) HX.out HV.out (by omega) hyk).trans (ml_impl y x))
          rw [← hz] at HN
          clear hyk hz2 hz hhp hhq hhr hhs
          by_cases z0 : 0 ≤ z
          · have hd1 : decide (0 ≤ z) = true := by simp [z0]
            have HN1 := Lib.hid (HN.out.trans (show _ = false by rw [hd1]; rfl))
            go_wp2_with fail
            refine wp_region_stay_tail 20 (by kernel_rfl) (by kernel_rfl) ?_
            simp only [List.take_succ_cons, List.take_zero, List.drop_succ_cons, List.drop_zero]
            still_step
            still_step
            still_step
            still_step
            still_call ((Kp.out _).mono (fun _ _ h => ⟨h.1, h.2.symm⟩))
            still_step
            still_step
            still_step
            still_step
            still_call ((Kq.out _).mono (fun _ _ h => ⟨h.1, h.2.symm⟩))
            still_step
            still_step
            still_step
            still_step
            still_call ((Kr.out _).mono (fun _ _ h => ⟨h.1, h.2.symm⟩))
            still_step
            still_step
            still_step
            still_step
            still_call ((Ks.out _).mono (fun _ _ h => ⟨h.1, h.2.symm⟩))
            refine wpStill_nil ?_
            go_wp2_with fail
            refine (KO.out _ _ ?_).mono ?_
            · exact (rd_new #[.int .i64 p, .int .i64 q, .int .i64 r, .int .i64 s] 3 (by simp)).drew
            rintro e w2 ⟨rfl, rfl⟩
            go_wp2
            go_ret
            exact ⟨ret_bool (mlL_no (k := k) (by omega) HN1.out).symm, ((hB1.alloc hB1.size _).alloc (by have := hB1.size; simp; omega) _).drew⟩
          · have hd1 : decide (0 ≤ z) = false := by simp; omega
            have HN1 := Lib.hid (HN.out.trans (show _ = true by rw [hd1]; rfl))
            go_wp2_with fail
            refine wp_region_stay_tail 20 (by kernel_rfl) (by kernel_rfl) ?_
            simp only [List.take_succ_cons, List.take_zero, List.drop_succ_cons, List.drop_zero]
            still_step
            still_step
            still_step
            still_step
            still_call ((Kp.out _).mono (fun _ _ h => ⟨h.1, h.2.symm⟩))
            still_step
            still_step
            still_step
            still_step
            still_call ((Kq.out _).mono (fun _ _ h => ⟨h.1, h.2.symm⟩))
            still_step
            still_step
            still_step
            still_step
            still_call ((Kr.out _).mono (fun _ _ h => ⟨h.1, h.2.symm⟩))
            still_step
            still_step
            still_step
            still_step
            still_call ((Ks.out _).mono (fun _ _ h => ⟨h.1, h.2.symm⟩))
            refine wpStill_nil ?_
            go_wp2_with fail
            refine (KO.out _ _ ?_).mono ?_
            · exact (rd_new #[.int .i64 p, .int .i64 q, .int .i64 r, .int .i64 s] 3 (by simp)).drew
            rintro e w2 ⟨rfl, rfl⟩
            go_wp2
            go_roundw
            case rel => exact ⟨k + 1, by omega, by go_num, rfl, HR.out.step HN1.out, ((hB1.alloc hB1.size _).alloc (by have := hB1.size; simp; omega) _).drew⟩
            case measure => simp [intOf]; omega

    · go_wp2
      go_ret
      exact ⟨ret_bool (mlL_end HR.out hn (by omega)), hb⟩

set_option maxHeartbeats 4000000 in
set_option maxRecDepth 20000 in
theorem l9Good_any (A : Option Addr) (n c : Nat) (xs : List R4) (w : World) (hn : xs.length = n) (hA : Rd w A (cells4 xs)) (h20 : n ≤ 1048576) (hsm : ∀ x ∈ xs, sm4 x) :
    Calls Try.prog 26 #[.slice A n c] w (Ret (.bool (mlL xs)) w) := by
  go_enter Try.func26, Try.ntmps26
  go_wp2_with fail
  go_loopw [3, 2] (fun i r wr => ∃ (k : Nat), k ≤ n ∧ i = .int .i64 k ∧ r = .bool false ∧ ARel mlB mlLess xs k ∧ Below w.heap.size w wr) (fun i _ _ => n - (intOf i).toNat)
  case atStart => exact ⟨0, by omega, rfl, rfl, .zero, Below.refl _ _⟩
  case round =>
    obtain ⟨k, hk, rfl, rfl, hrel, hb⟩ := hrel
    have HR := Lib.hid hrel
    clear hrel
    by_cases hlt : k < n
    · obtain ⟨x, hxk⟩ : ∃ x, xs[k]? = some x := ⟨xs[k], List.getElem?_eq_getElem (by omega)⟩
      obtain ⟨g, o, hAe, hg, c0, c1, c2, c3⟩ := (hA.below hb).at4 hxk
      subst hAe
      have HX := Lib.hid hxk
      have C1 := Lib.hid (fun w => l9One_any x w (hsm x (List.mem_of_getElem? hxk)).2.2.2)
      clear hxk
      cases hv : mlB x with
      | false =>
        rw [hv] at C1
        have HV := Lib.hid (okA_no (bef := mlLess) HX.out hv)
        clear hv
        go_wp2_with fail
        refine wp_region_lat wr.heap.size (by kernel_rfl) (by kernel_rfl) ?_
        have LC := fun (u : Lat wr.heap.size wr) => u.cell
        repeat (go_big_quiet_step ((go_at_call 41; exact lat_call _ (Nat.le_refl _) (C1.out _))))
        refine wpQuiet_nil ?_
        intro w1 hw1
        clear LC
        go_wp2
        go_ret
        exact ⟨ret_bool (mlL_no (k := k) (by omega) HV.out).symm, hb.trans (hw1.mono hb.size)⟩
      | true =>
        rw [hv] at C1
        have HV := Lib.hid hv
        have HVX := Lib.hid (sm4_of hv)
        clear hv
        by_cases h0 : k ≤ 0
        · have hd : decide (0 < k) = false := by simp; omega
          have HN := Lib.hid (okA_first (bef := mlLess) HX.out HV.out (by omega))
          go_wp2_with fail
          refine wp_region_lat wr.heap.size (by kernel_rfl) (by kernel_rfl) ?_
          have LC := fun (u : Lat wr.heap.size wr) => u.cell
          repeat (go_big_quiet_step ((go_at_call 41; exact lat_call _ (Nat.le_refl _) (C1.out _))))
          refine wpQuiet_nil ?_
          intro w1 hw1
          clear LC
          go_wp2
          go_roundw
          case rel => exact ⟨k + 1, by omega, by go_num, rfl, HR.out.step HN.out, hb.trans (hw1.mono hb.size)⟩
          case measure => simp [intOf]; omega
        · obtain ⟨y, hyk⟩ : ∃ y, xs[k - 1]? = some y := ⟨xs[k - 1], List.getElem?_eq_getElem (by omega)⟩
          obtain ⟨g', o', hA', hg1, d0, d1, d2, d3⟩ := (hA.below hb).at4 hyk
          injection hA' with hA'
          injection hA' with hA1 hA2
          subst hA1; subst hA2
          have hp : 0 < k := by omega
          have hvy : mlB y = true := okA_valid (HR.out (k - 1) (by omega)) hyk
          have HVY := Lib.hid (sm4_of hvy)
          have HN := Lib.hid ((okA_next (bef := mlLess) HX.out HV.out (by omega) hyk).trans (mlKey_less hvy HV.out))
          clear hyk h0 hvy
          by_cases hq0 : mlKey x ≤ mlKey y
          · have hd1 : decide (mlKey x ≤ mlKey y) = true := by simp [hq0]
            have HN1 := Lib.hid (HN.out.trans (show _ = false by rw [hd1]; rfl))
            go_wp2_with fail
            refine wp_region_lat wr.heap.size (by kernel_rfl) (by kernel_rfl) ?_
            have LC := fun (u : Lat wr.heap.size wr) => u.cell
            repeat (go_big_quiet_step ((first | (go_at_call 41; exact lat_call _ (Nat.le_refl _) (C1.out _)) | (go_at_call 42; exact lat_call _ (Nat.le_refl _) (l9Code_any _ _ (by first | exact HVY.out | exact HVX.out))))))
            refine wpQuiet_nil ?_
            intro w1 hw1
            clear LC
            go_wp2
            go_ret
            exact ⟨ret_bool (mlL_no (k := k) (by omega) HN1.out).symm, hb.trans (hw1.mono hb.size)⟩
          · have hd1 : decide (mlKey x ≤ mlKey y) = false := by simp; omega
            have HN1 := Lib.hid (HN.out.trans (show _ = true by rw [hd1]; rfl))
            go_wp2_with fail
            refine wp_region_lat wr.heap.size (by kernel_rfl) (by kernel_rfl) ?_
            have LC := fun (u : Lat wr.heap.size wr) => u.cell
            repeat (go_big_quiet_step ((first | (go_at_call 41; exact lat_call _ (Nat.le_refl _) (C1.out _)) | (go_at_call 42; exact lat_call _ (Nat.le_refl _) (l9Code_any _ _ (by first | exact HVY.out | exact HVX.out))))))
            refine wpQuiet_nil ?_
            intro w1 hw1
            clear LC
            go_wp2
            go_roundw
            case rel => exact ⟨k + 1, by omega, by go_num, rfl, HR.out.step HN1.out, hb.trans (hw1.mono hb.size)⟩
            case measure => simp [intOf]; omega
    · go_wp2
      go_ret
      exact ⟨ret_bool (mlL_end HR.out hn (by omega)), hb⟩

set_option maxHeartbeats 4000000 in
set_option maxRecDepth 20000 in
theorem l10Good_any (A : Option Addr) (n c : Nat) (xs : List R9) (w : World) (hn : xs.length = n) (hA : Rd w A (cells9 xs)) (h20 : n ≤ 1048576) :
    Calls Try.prog 27 #[.slice A n c] w (Ret (.bool (cvL xs)) w) := by
  go_enter Try.func27, Try.ntmps27
  go_wp2_with fail
  go_loopw [3, 2] (fun i r wr => ∃ (k : Nat), k ≤ n ∧ i = .int .i64 k ∧ r = .bool false ∧ ARel cvB cvBef xs k ∧ Below w.heap.size w wr) (fun i _ _ => n - (intOf i).toNat)
  case atStart => exact ⟨0, by omega, rfl, rfl, .zero, Below.refl _ _⟩
  case round =>
    obtain ⟨k, hk, rfl, rfl, hrel, hb⟩ := hrel
    have HR := Lib.hid hrel
    clear hrel
    by_cases hlt : k < n
    · obtain ⟨x, hxk⟩ : ∃ x, xs[k]? = some x := ⟨xs[k], List.getElem?_eq_getElem (by omega)⟩
      obtain ⟨g, o, hAe, hg, c0, c1, c2, c3, c4, c5, c6, c7, c8⟩ := (hA.below hb).at9 hxk
      subst hAe
      have HX := Lib.hid hxk
      have C1 := Lib.hid (fun w => l10One_any x w)
      clear hxk
      cases hv : cvB x with
      | false =>
        rw [hv] at C1
        have HV := Lib.hid (okA_no (bef := cvBef) HX.out hv)
        clear hv
        go_wp2_with fail
        refine wp_region_lat wr.heap.size (by kernel_rfl) (by kernel_rfl) ?_
        have LC := fun (u : Lat wr.heap.size wr) => u.cell
        repeat (go_big_quiet_step ((go_at_call 52; exact lat_call _ (Nat.le_refl _) (C1.out _))))
        refine wpQuiet_nil ?_
        intro w1 hw1
        clear LC
        go_wp2
        go_ret
        exact ⟨ret_bool (cvL_no (k := k) (by omega) HV.out).symm, hb.trans (hw1.mono hb.size)⟩
      | true =>
        rw [hv] at C1
        have HV := Lib.hid hv
        clear hv
        by_cases h0 : k ≤ 0
        · have hd : decide (0 < k) = false := by simp; omega
          have HN := Lib.hid (okA_first (bef := cvBef) HX.out HV.out (by omega))
          go_wp2_with fail
          refine wp_region_lat wr.heap.size (by kernel_rfl) (by kernel_rfl) ?_
          have LC := fun (u : Lat wr.heap.size wr) => u.cell
          repeat (go_big_quiet_step ((go_at_call 52; exact lat_call _ (Nat.le_refl _) (C1.out _))))
          refine wpQuiet_nil ?_
          intro w1 hw1
          clear LC
          go_wp2
          go_roundw
          case rel => exact ⟨k + 1, by omega, by go_num, rfl, HR.out.step HN.out, hb.trans (hw1.mono hb.size)⟩
          case measure => simp [intOf]; omega
        · obtain ⟨y, hyk⟩ : ∃ y, xs[k - 1]? = some y := ⟨xs[k - 1], List.getElem?_eq_getElem (by omega)⟩
          obtain ⟨g', o', hA', hg1, d0, d1, d2, d3, d4, d5, d6, d7, d8⟩ := (hA.below hb).at9 hyk
          injection hA' with hA'
          injection hA' with hA1 hA2
          subst hA1; subst hA2
          have hp : 0 < k := by omega
          have hvy : cvB y = true := okA_valid (HR.out (k - 1) (by omega)) hyk
          have HN := Lib.hid (okA_next (bef := cvBef) HX.out HV.out (by omega) hyk)
          clear hyk h0 hvy
          by_cases hq0 : x.a ≤ y.a
          · have hd1 : decide (x.a ≤ y.a) = true := by simp [hq0]
            have HN1 := Lib.hid (HN.out.trans (show _ = false by unfold cvBef; rw [hd1]; rfl))
            go_wp2_with fail
            refine wp_region_lat wr.heap.size (by kernel_rfl) (by kernel_rfl) ?_
            have LC := fun (u : Lat wr.heap.size wr) => u.cell
            repeat (go_big_quiet_step ((go_at_call 52; exact lat_call _ (Nat.le_refl _) (C1.out _))))
            refine wpQuiet_nil ?_
            intro w1 hw1
            clear LC
            go_wp2
            go_ret
            exact ⟨ret_bool (cvL_no (k := k) (by omega) HN1.out).symm, hb.trans (hw1.mono hb.size)⟩
          · have hd1 : decide (x.a ≤ y.a) = false := by simp; omega
            have HN1 := Lib.hid (HN.out.trans (show _ = true by unfold cvBef; rw [hd1]; rfl))
            go_wp2_with fail
            refine wp_region_lat wr.heap.size (by kernel_rfl) (by kernel_rfl) ?_
            have LC := fun (u : Lat wr.heap.size wr) => u.cell
            repeat (go_big_quiet_step ((go_at_call 52; exact lat_call _ (Nat.le_refl _) (C1.out _))))
            refine wpQuiet_nil ?_
            intro w1 hw1
            clear LC
            go_wp2
            go_roundw
            case rel => exact ⟨k + 1, by omega, by go_num, rfl, HR.out.step HN1.out, hb.trans (hw1.mono hb.size)⟩
            case measure => simp [intOf]; omega
    · go_wp2
      go_ret
      exact ⟨ret_bool (cvL_end HR.out hn (by omega)), hb⟩

set_option maxHeartbeats 4000000 in
set_option maxRecDepth 20000 in
theorem areCovers_any (A : Option Addr) (n c : Nat) (xs : List R9) (w : World) (hn : xs.length = n) (hA : Rd w A (cells9 xs)) (h20 : n ≤ 1048576) :
    Calls Try.prog 23 #[.slice A n c] w (Ret (.bool (cvL xs)) w) := by
  go_enter Try.func23, Try.ntmps23
  go_wp2_with fail
  go_loopw [7, 2, 3, 4] (fun i r _ _ wr => ∃ (k : Nat), k ≤ n ∧ i = .int .i64 k ∧ r = .bool false ∧ ARel cvB cvBef xs k ∧ Below w.heap.size w wr) (fun i _ _ _ _ => n - (intOf i).toNat)
  case atStart => exact ⟨0, by omega, rfl, rfl, .zero, Below.refl _ _⟩
  case round =>
    obtain ⟨k, hk, rfl, rfl, hrel, hb⟩ := hrel
    have HR := Lib.hid hrel
    clear hrel
    by_cases hlt : k < n
    · obtain ⟨x, hxk⟩ : ∃ x, xs[k]? = some x := ⟨xs[k], List.getElem?_eq_getElem (by omega)⟩
      obtain ⟨g, o, hAe, hg, c0, c1, c2, c3, c4, c5, c6, c7, c8⟩ := (hA.below hb).at9 hxk
      subst hAe
      have hg1 : g < wr.heap.size + 1 := by omega
      have HX := Lib.hid hxk
      clear hxk
      have C1 := Lib.hid (fun w => isCover_any x w)
      have hbw : ∀ (o : Obj) (w1 : World), Below (wr.heap.size + 1) (wr.alloc o) w1 → Below w.heap.size wr w1 := fun o w1 hb1 => ((Below.refl _ _).alloc hb.size o).trans (hb1.mono (by have := hb.size; omega))
      have HBW := Lib.hid hbw
      clear hbw
      cases hv : cvB x with
      | false =>
        rw [hv] at C1
        have HV := Lib.hid (okA_no (bef := cvBef) HX.out hv)
        clear hv
        go_wp2_with fail
        refine wp_region_lat (wr.heap.size + 1) (by kernel_rfl) (by kernel_rfl) ?_
        have LC := fun (u : Lat (wr.heap.size + 1) (wr.alloc (Obj.cells #[Value.int IntKind.i64 x.a, Value.int IntKind.i64 x.b, Value.int IntKind.i64 x.c, Value.int IntKind.i64 x.d, Value.int IntKind.i64 x.e, Value.int IntKind.i64 x.f, Value.int IntKind.i64 x.g, Value.int IntKind.i64 x.h, Value.int IntKind.i64 x.i] 42))) => u.cell
        repeat (go_big_quiet_step ((go_at_call 36; exact lat_call _ (by simp) (C1.out _))))
        refine wpQuiet_nil ?_
        intro w1 hb1
        clear LC
        go_wp2
        go_ret
        exact ⟨ret_bool (cvL_no (k := k) (by omega) HV.out).symm, hb.trans (HBW.out _ _ hb1)⟩
      | true =>
        rw [hv] at C1
        have HV := Lib.hid hv
        clear hv
        by_cases h0 : k ≤ 0
        · have hd : decide (0 < k) = false := by simp; omega
          have HN := Lib.hid (okA_first (bef := cvBef) HX.out HV.out (by omega))
          go_wp2_with fail
          refine wp_region_lat (wr.heap.size + 1) (by kernel_rfl) (by kernel_rfl) ?_
          have LC := fun (u : Lat (wr.heap.size + 1) (wr.alloc (Obj.cells #[Value.int IntKind.i64 x.a, Value.int IntKind.i64 x.b, Value.int IntKind.i64 x.c, Value.int IntKind.i64 x.d, Value.int IntKind.i64 x.e, Value.int IntKind.i64 x.f, Value.int IntKind.i64 x.g, Value.int IntKind.i64 x.h, Value.int IntKind.i64 x.i] 42))) => u.cell
          repeat (go_big_quiet_step ((go_at_call 36; exact lat_call _ (by simp) (C1.out _))))
          refine wpQuiet_nil ?_
          intro w1 hb1
          clear LC
          go_wp2
          go_roundw
          case rel => exact ⟨k + 1, by omega, by go_num, rfl, HR.out.step HN.out, hb.trans (HBW.out _ _ hb1)⟩
          case measure => simp [intOf]; omega
        · obtain ⟨y, hyk⟩ : ∃ y, xs[k - 1]? = some y := ⟨xs[k - 1], List.getElem?_eq_getElem (by omega)⟩
          obtain ⟨g', o', hA', _, d0, d1, d2, d3, d4, d5, d6, d7, d8⟩ := (hA.below hb).at9 hyk
          injection hA' with hA'
          injection hA' with hA1 hA2
          subst hA1; subst hA2
          have hp : 0 < k := by omega
          have HN := Lib.hid (okA_next (bef := cvBef) HX.out HV.out (by omega) hyk)
          clear hyk h0
          by_cases hq0 : x.a ≤ y.a
          · have hd1 : decide (x.a ≤ y.a) = true := by simp [hq0]
            have HN1 := Lib.hid (HN.out.trans (show _ = false by unfold cvBef; rw [hd1]; rfl))
            go_wp2_with fail
            refine wp_region_lat (wr.heap.size + 1) (by kernel_rfl) (by kernel_rfl) ?_
            have LC := fun (u : Lat (wr.heap.size + 1) (wr.alloc (Obj.cells #[Value.int IntKind.i64 x.a, Value.int IntKind.i64 x.b, Value.int IntKind.i64 x.c, Value.int IntKind.i64 x.d, Value.int IntKind.i64 x.e, Value.int IntKind.i64 x.f, Value.int IntKind.i64 x.g, Value.int IntKind.i64 x.h, Value.int IntKind.i64 x.i] 42))) => u.cell
            repeat (go_big_quiet_step ((go_at_call 36; exact lat_call _ (by simp) (C1.out _))))
            refine wpQuiet_nil ?_
            intro w1 hb1
            clear LC
            go_wp2
            go_ret
            exact ⟨ret_bool (cvL_no (k := k) (by omega) HN1.out).symm, hb.trans (HBW.out _ _ hb1)⟩
          · have hd1 : decide (x.a ≤ y.a) = false := by simp; omega
            have HN1 := Lib.hid (HN.out.trans (show _ = true by unfold cvBef; rw [hd1]; rfl))
            go_wp2_with fail
            refine wp_region_lat (wr.heap.size + 1) (by kernel_rfl) (by kernel_rfl) ?_
            have LC := fun (u : Lat (wr.heap.size + 1) (wr.alloc (Obj.cells #[Value.int IntKind.i64 x.a, Value.int IntKind.i64 x.b, Value.int IntKind.i64 x.c, Value.int IntKind.i64 x.d, Value.int IntKind.i64 x.e, Value.int IntKind.i64 x.f, Value.int IntKind.i64 x.g, Value.int IntKind.i64 x.h, Value.int IntKind.i64 x.i] 42))) => u.cell
            repeat (go_big_quiet_step ((go_at_call 36; exact lat_call _ (by simp) (C1.out _))))
            refine wpQuiet_nil ?_
            intro w1 hb1
            clear LC
            go_wp2
            go_roundw
            case rel => exact ⟨k + 1, by omega, by go_num, rfl, HR.out.step HN1.out, hb.trans (HBW.out _ _ hb1)⟩
            case measure => simp [intOf]; omega
    · go_wp2
      go_ret
      exact ⟨ret_bool (cvL_end HR.out hn (by omega)), hb⟩

end Go.Proofs.Ytobloedpmjkgpaa
