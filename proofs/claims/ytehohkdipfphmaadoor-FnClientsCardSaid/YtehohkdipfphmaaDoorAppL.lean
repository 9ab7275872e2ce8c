/- Approvals: whether a list is valid: the program. -/
import Derived.Test.YtehohkdipfphmaaDoorAppK
namespace Go.Proofs.YtehohkdipfphmaaDoor
set_option linter.unusedVariables false
set_option linter.unusedSimpArgs false
open Go.RowKit

theorem own_cap {w : World} {base e size n c : Nat} {A : Option Addr} {cs : List Value} (h : w.ownsRow base e size (.slice A n c) n cs) : n ≤ c ∧ c ≤ maxLen := by
  rcases h.2 with ⟨h', h0⟩ | ⟨g, cap, cur, h', _, _, hnc, hcm, _⟩
  · injection h' with _ _ h3; omega
  · injection h' with _ _ h3; omega
def badI (y x : AR) (z : Int) : Bool := hasB x.items z && (hasB y.kept z || !inR y.back 0 x.sent)
theorem one_back {y : AR} (h : oneA y = true) : y.back = -1 ∨ 0 ≤ y.back := by
  unfold oneA at h
  simp only [Bool.and_eq_true] at h
  by_cases hb : y.back = -1
  · exact .inl hb
  · right
    rw [if_neg hb] at h
    have := h.2
    simp only [Bool.and_eq_true, g2A, inR_true] at this
    omega
theorem badI_eq {y x : AR} {z : Int} (h : oneA y = true) (hy : hasB y.items z = true) (hx : hasB x.items z = true) : badI y x z = badZ y x z := by
  unfold badI badZ
  rw [hy, hx, Bool.true_and, Bool.true_and]
  cases hasB y.kept z with
  | true => simp
  | false =>
    rw [Bool.eq_iff_iff]
    have := one_back h
    simp only [Bool.false_or, Bool.or_false, Bool.not_eq_true', inR_false, Bool.or_eq_true, beq_iff_eq, decide_eq_true_eq]
    omega
theorem badI_out {y x : AR} {z : Int} (h : hasB x.items z = false) : badI y x z = false := by simp [badI, h]
theorem badZ_out {y x : AR} {z : Int} (h : hasB y.items z = false) : badZ y x z = false := by simp [badZ, h]
theorem freeI_no {y x : AR} {k : Nat} {z : Int} (h1 : oneA y = true) (h : y.items[k]? = some z) (hz : badI y x z = true) : freeB y x = false := by
  have hx : hasB x.items z = true := by unfold badI at hz; simp only [Bool.and_eq_true] at hz; exact hz.1
  have hy := hasB_hit h
  rw [badI_eq h1 hy hx] at hz
  obtain ⟨j, hj⟩ := List.mem_iff_getElem?.1 (hasB_true.1 hx)
  exact freeB_no hj hz
theorem freeI_yes {y x : AR} (h1 : oneA y = true) (h : ∀ (j : Nat) (z : Int), j < y.items.length → y.items[j]? = some z → badI y x z = false) : freeB y x = true := by
  refine freeB_yes fun j z hj hz => ?_
  cases hy : hasB y.items z with
  | false => exact badZ_out hy
  | true =>
    rw [← badI_eq h1 hy (hasB_hit hz)]
    obtain ⟨i, hi⟩ := List.mem_iff_getElem?.1 (hasB_true.1 hy)
    exact h i z (List.getElem?_eq_some_iff.1 hi).1 hi

set_option maxRecDepth 20000 in
set_option maxHeartbeats 8000000 in
theorem areApprovals_any (A : Option Addr) (n c : Nat) (xs : List AR) (w : World) (hn : xs.length = n) (hA : RdA w A xs) (h20 : n ≤ 1048577) (hw : ∀ x ∈ xs, smA x) (hcap : n ≤ c ∧ c ≤ maxLen) :
    Calls Tryd.prog 25 #[.slice A n c] w (Ret (.bool (goodA xs)) w) := by
  have HN := Lib.hid hn
  have HA := Lib.hid hA
  have HW := Lib.hid hw
  obtain ⟨hnc, hcm⟩ := hcap
  unfold maxLen at hcm
  clear hn hA hw
  go_enter Tryd.func25, Tryd.ntmps25
  go_wp2_with fail
  go_loopw [11] (fun i wr => ∃ (k : Nat), k ≤ n ∧ i = .int .i64 k ∧ (∀ j, j < k → okAt xs j = true) ∧ Below w.heap.size w wr) (fun i _ => n - (intOf i).toNat)
  case atStart => exact ⟨0, by omega, rfl, fun j hj => by omega, Below.refl _ _⟩
  case round =>
    obtain ⟨k, hk, rfl, hrel, hb⟩ := hrel
    have HR := Lib.hid hrel
    clear hrel
    by_cases hlt : k < n
    · obtain ⟨x, hxk⟩ : ∃ x, xs[k]? = some x := ⟨xs[k]'(by have := HN.out; omega), List.getElem?_eq_getElem _⟩
      obtain ⟨g, o, B, cb, D, cd, rfl, hrow⟩ := (HA.out.below hb).at hxk
      have HX := Lib.hid hxk
      have HRX := Lib.hid hrow
      have C1 := Lib.hid (fun w h => isApproval_any x g (o + k * 6) B cb D cd w h (HW.out x (List.mem_of_getElem? hxk)))
      have hkl : k < xs.length := by have := HN.out; omega
      have HKL := Lib.hid hkl
      obtain ⟨hg, -, c0, c1, c2, c3, c4, c5, -, -, -, -, rB, rD⟩ := hrow
      clear hxk rB rD hkl
      cases hv : oneA x with
      | false =>
        rw [hv] at C1
        have HV := Lib.hid (goodA_no HKL.out (okAt_no1 HX.out hv))
        clear hv
        go_wp2_with fail
        refine wp_region_lat wr.heap.size (by kernel_rfl) (by kernel_rfl) ?_
        have LC := fun (u : Lat wr.heap.size wr) => u.cell
        repeat (go_big_quiet_step ((go_at_call 54; (with_reducible exact lat_call _ (Nat.le_refl _) (C1.out _ (HRX.out.below (Lat.below _)))))))
        refine wpQuiet_nil ?_
        intro w1 hw1
        clear LC
        go_wp2
        go_ret
        exact ⟨ret_bool HV.out.symm, hb.trans (hw1.mono hb.size)⟩
      | true =>
        rw [hv] at C1
        have HO := Lib.hid hv
        clear hv
        by_cases h0 : k ≤ 0
        · have hd : decide (0 < k) = false := by simp; omega
          have HBF : Hid (k = 0 ∨ ∃ y, xs[k - 1]? = some y ∧ befA y x = true) := Lib.hid (.inl (by omega))
          go_wp2_with fail
          refine wp_region_lat wr.heap.size (by kernel_rfl) (by kernel_rfl) ?_
          have LC := fun (u : Lat wr.heap.size wr) => u.cell
          repeat (go_big_quiet_step ((go_at_call 54; (with_reducible exact lat_call _ (Nat.le_refl _) (C1.out _ (HRX.out.below (Lat.below _)))))))
          refine wpQuiet_nil ?_
          intro w1 hw1
          clear LC
          have HB1 := Lib.hid (hb.trans (hw1.mono hb.size))
          have hkc : k ≤ c := by omega
          have hkc1 : (k : Int) ≤ (c : Int) := by omega
          have hc0 : (0 : Int) ≤ (k : Int) := by omega
          clear hw1 c0 c1 c2 c3 c4 c5 hg HRX
          go_wp2_with fail
          go_loopw [54] (fun i wr => ∃ (j : Nat), j ≤ k ∧ i = .int .i64 j ∧ (∀ (q : Nat) (y : AR), q < j → xs[q]? = some y → freeB y x = true) ∧ Below w.heap.size w wr) (fun i _ => k - (intOf i).toNat)
          case atStart => exact ⟨0, by omega, rfl, fun q y hq => by omega, HB1.out⟩
          case round =>
            obtain ⟨j, hj, rfl, hrel, hb⟩ := hrel
            have HF := Lib.hid hrel
            have HBM := Lib.hid hb
            clear hrel
            by_cases hjl : j < k
            · exact absurd hjl (by omega)
            · have hdj : decide (j < k) = false := by simpa using hjl
              have HOK := Lib.hid (okAt_yes HX.out HO.out HBF.out (fun q y hq hy => HF.out q y (by omega) hy))
              go_wp2
              go_roundw
              case rel =>
                refine ⟨k + 1, by omega, by go_num, fun q hq => ?_, hb⟩
                rcases Nat.lt_or_ge q k with h' | h'
                · exact HR.out q h'
                · have : q = k := by omega
                  subst this; exact HOK.out
              case measure => simp [intOf]; omega
        · obtain ⟨y, hyk⟩ : ∃ y, xs[k - 1]? = some y := ⟨xs[k - 1]'(by have := HKL.out; omega), List.getElem?_eq_getElem _⟩
          obtain ⟨g', o', B', cb', D', cd', hA', hrow'⟩ := (HA.out.below hb).at hyk
          injection hA' with hA'
          injection hA' with hA1 hA2
          subst hA1; subst hA2
          obtain ⟨hg', -, e0, -, e2, -, -, -, -, -, -, -, -, -⟩ := hrow'
          have hp : 0 < k := by omega
          have HY := Lib.hid hyk
          have hk0 : k ≠ 0 := by omega
          clear hyk h0
          by_cases hq1 : x.id ≤ y.id
          · have f1 : decide (x.id ≤ y.id) = true := by simpa using hq1
            have HV := Lib.hid (goodA_no HKL.out (okAt_no2 HX.out HY.out hk0 (befA_no1 hq1)))
            go_wp2_with fail
            refine wp_region_lat wr.heap.size (by kernel_rfl) (by kernel_rfl) ?_
            have LC := fun (u : Lat wr.heap.size wr) => u.cell
            repeat (go_big_quiet_step ((go_at_call 54; (with_reducible exact lat_call _ (Nat.le_refl _) (C1.out _ (HRX.out.below (Lat.below _)))))))
            refine wpQuiet_nil ?_
            intro w1 hw1
            clear LC
            go_wp2
            go_ret
            exact ⟨ret_bool HV.out.symm, hb.trans (hw1.mono hb.size)⟩
          · have f1 : decide (x.id ≤ y.id) = false := by simpa using hq1
            by_cases hq2 : x.sent < y.sent
            · have f2 : decide (x.sent < y.sent) = true := by simpa using hq2
              have HV := Lib.hid (goodA_no HKL.out (okAt_no2 HX.out HY.out hk0 (befA_no2 hq2)))
              go_wp2_with fail
              refine wp_region_lat wr.heap.size (by kernel_rfl) (by kernel_rfl) ?_
              have LC := fun (u : Lat wr.heap.size wr) => u.cell
              repeat (go_big_quiet_step ((go_at_call 54; (with_reducible exact lat_call _ (Nat.le_refl _) (C1.out _ (HRX.out.below (Lat.below _)))))))
              refine wpQuiet_nil ?_
              intro w1 hw1
              clear LC
              go_wp2
              go_ret
              exact ⟨ret_bool HV.out.symm, hb.trans (hw1.mono hb.size)⟩
            · have f2 : decide (x.sent < y.sent) = false := by simpa using hq2
              have HBF : Hid (k = 0 ∨ ∃ y, xs[k - 1]? = some y ∧ befA y x = true) := Lib.hid (.inr ⟨y, HY.out, befA_yes hq1 hq2⟩)
              go_wp2_with fail
              refine wp_region_lat wr.heap.size (by kernel_rfl) (by kernel_rfl) ?_
              have LC := fun (u : Lat wr.heap.size wr) => u.cell
              repeat (go_big_quiet_step ((go_at_call 54; (with_reducible exact lat_call _ (Nat.le_refl _) (C1.out _ (HRX.out.below (Lat.below _)))))))
              refine wpQuiet_nil ?_
              intro w1 hw1
              clear LC
              have HB1 := Lib.hid (hb.trans (hw1.mono hb.size))
              have hkc : k ≤ c := by omega
              have hkc1 : (k : Int) ≤ (c : Int) := by omega
              have hc0 : (0 : Int) ≤ (k : Int) := by omega
              clear hw1 c0 c1 c2 c3 c4 c5 hg HRX
              go_wp2_with fail
              go_loopw [54] (fun i wr => ∃ (j : Nat), j ≤ k ∧ i = .int .i64 j ∧ (∀ (q : Nat) (y : AR), q < j → xs[q]? = some y → freeB y x = true) ∧ Below w.heap.size w wr) (fun i _ => k - (intOf i).toNat)
              case atStart => exact ⟨0, by omega, rfl, fun q y hq => by omega, HB1.out⟩
              case round =>
                obtain ⟨j, hj, rfl, hrel, hb⟩ := hrel
                have HF := Lib.hid hrel
                have HBM := Lib.hid hb
                clear hrel
                by_cases hjl : j < k
                · obtain ⟨y, hyj⟩ : ∃ y, xs[j]? = some y := ⟨xs[j]'(by have := HKL.out; omega), List.getElem?_eq_getElem _⟩
                  obtain ⟨g1, o1, B1, cb1, D1, cd1, hA1, hrow1⟩ := (HA.out.below hb).at hyj
                  obtain ⟨g2, o2, B2, cb2, D2, cd2, hA2, hrow2⟩ := (HA.out.below hb).at HX.out
                  injection hA1 with hA1
                  injection hA1 with hA11 hA12
                  subst hA11; subst hA12
                  injection hA2 with hA2
                  injection hA2 with hA21 hA22
                  subst hA21; subst hA22
                  have HY := Lib.hid hyj
                  have HOY := Lib.hid (okAt_one (HR.out j hjl) hyj)
                  obtain ⟨W3, hW3⟩ : ∃ W3, W3 = wr.alloc (.cells #[.int .i64 y.id, .string y.client, .int .i64 y.sent, .slice B1 y.items.length cb1, .slice D1 y.kept.length cd1, .int .i64 y.back] 34) := ⟨_, rfl⟩
                  have B3 : Hid (Below wr.heap.size wr W3) := Lib.hid (by rw [hW3]; exact (Below.refl _ _).alloc (Nat.le_refl _) _)
                  have Y3 : Hid (Blk W3 wr.heap.size [.int .i64 y.id, .string y.client, .int .i64 y.sent, .slice B1 y.items.length cb1, .slice D1 y.kept.length cd1, .int .i64 y.back]) := Lib.hid (by rw [hW3]; exact Blk.new _ _ _)
                  have RX3 := Lib.hid (hrow2.below B3.out)
                  have RY3 := Lib.hid (hrow1.below B3.out)
                  have HW3 := Lib.hid hW3
                  have hsx := (HW.out x (List.mem_of_getElem? HX.out)).2.1
                  have hsy := (HW.out y (List.mem_of_getElem? hyj)).2
                  obtain ⟨hsy1, hsy2⟩ := hsy
                  obtain ⟨hg1, -, c0, c1, c2, c3, c4, c5, -, -, -, -, -, -⟩ := hrow1
                  have hjk1 : (j : Int) < (k : Int) := by omega
                  have hj0 : (0 : Int) ≤ (j : Int) := by omega
                  have hj6 := wr.heap.size
                  clear hyj hW3 hj6
                  go_wp2_with fail
                  go_loopw [61] (fun i w5 => ∃ (q : Nat), q ≤ y.items.length ∧ i = .int .i64 q ∧ (∀ (i : Nat) (z : Int), i < q → y.items[i]? = some z → badI y x z = false) ∧ Below W3.heap.size W3 w5) (fun i _ => y.items.length - (intOf i).toNat)
                  case atStart => exact ⟨0, Nat.zero_le _, rfl, fun i z hi => by omega, by rw [HW3.out]; exact Below.refl _ _⟩
                  case round =>
                    clear c0 c1 c2 c3 c4 c5
                    obtain ⟨q, hq, rfl, hrel, hb⟩ := hrel
                    have HI := Lib.hid hrel
                    have Y4 := Lib.hid (Y3.out.below hb Y3.out.lt)
                    have RX4 := Lib.hid (RX3.out.below hb)
                    have RY4 := Lib.hid (RY3.out.below hb)
                    have HWR := Lib.hid ((HBM.out.trans (B3.out.mono HBM.out.size)).trans (hb.mono (Nat.le_trans HBM.out.size B3.out.size)))
                    have y3 := Y4.out.cell 3 _ rfl
                    have y4 := Y4.out.cell 4 _ rfl
                    have y5 := Y4.out.cell 5 _ rfl
                    have hyl := Y4.out.lt
                    obtain ⟨hgx, -, c0, c1, c2, c3, c4, c5, -, -, -, -, rB, -⟩ := RX4.out
                    have HXB := Lib.hid rB
                    have HYD := Lib.hid RY4.out.rD
                    clear hrel rB
                    by_cases hlq : q < y.items.length
                    · obtain ⟨z, hzk⟩ : ∃ z, y.items[q]? = some z := ⟨y.items[q], List.getElem?_eq_getElem hlq⟩
                      obtain ⟨gi, oi, hFe, hgi, z0⟩ := RY4.out.rB.at1 hzk
                      subst hFe
                      have HZ := Lib.hid hzk
                      have C2 := Lib.hid (fun w h => containsInt_any B2 _ cb2 x.items z w rfl h hsx)
                      have C3 := Lib.hid (fun w h => containsInt_any D1 _ cd1 y.kept z w rfl h hsy2)
                      have C4 := Lib.hid (fun w => inRange_any y.back 0 x.sent w)
                      clear hzk
                      cases p1 : hasB x.items z with
                      | false =>
                        rw [p1] at C2
                        have HV := Lib.hid (show badI y x z = false by exact badI_out p1)
                        go_wp2_with fail
                        refine wp_region_lat wr.heap.size (by kernel_rfl) (by kernel_rfl) ?_
                        have LC := fun (u : Lat wr.heap.size wr) => u.cell
                        repeat (go_big_quiet_step ((first | (go_at_call 33; (with_reducible exact lat_same _ (C2.out _ (HXB.out.below (Lat.below _))))) | (go_at_call 33; (with_reducible exact lat_same _ (C3.out _ (HYD.out.below (Lat.below _))))) | (go_at_call 42; (with_reducible exact lat_same _ (C4.out _))))))
                        refine wpQuiet_nil ?_
                        intro w4 hw4
                        clear LC
                        go_wp2
                        go_roundw
                        case rel =>
                          refine ⟨q + 1, by omega, by go_num, fun i y' hi hy' => ?_, hb.trans (hw4.mono hb.size)⟩
                          rcases Nat.lt_or_ge i q with h' | h'
                          · exact HI.out i y' h' hy'
                          · have : i = q := by omega
                            subst this; rw [HZ.out] at hy'; injection hy' with hy'; subst hy'; exact HV.out
                        case measure => simp [intOf]; omega
                      | true =>
                        rw [p1] at C2
                        cases p2 : hasB y.kept z with
                        | true =>
                          rw [p2] at C3
                          have HV := Lib.hid (goodA_no HKL.out (okAt_no3 HX.out HY.out hjl (freeI_no HOY.out HZ.out (show badI y x z = true by simp only [badI, p1, p2, Bool.true_and, Bool.true_or]))))
                          go_wp2_with fail
                          refine wp_region_lat wr.heap.size (by kernel_rfl) (by kernel_rfl) ?_
                          have LC := fun (u : Lat wr.heap.size wr) => u.cell
                          repeat (go_big_quiet_step ((first | (go_at_call 33; (with_reducible exact lat_same _ (C2.out _ (HXB.out.below (Lat.below _))))) | (go_at_call 33; (with_reducible exact lat_same _ (C3.out _ (HYD.out.below (Lat.below _))))) | (go_at_call 42; (with_reducible exact lat_same _ (C4.out _))))))
                          refine wpQuiet_nil ?_
                          intro w4 hw4
                          clear LC
                          go_wp2
                          go_ret
                          exact ⟨ret_bool HV.out.symm, HWR.out.trans (hw4.mono HWR.out.size)⟩
                        | false =>
                          rw [p2] at C3
                          cases p3 : inR y.back 0 x.sent with
                          | false =>
                            rw [p3] at C4
                            have HV := Lib.hid (goodA_no HKL.out (okAt_no3 HX.out HY.out hjl (freeI_no HOY.out HZ.out (show badI y x z = true by simp only [badI, p1, p2, p3, Bool.true_and, Bool.false_or, Bool.not_false]))))
                            go_wp2_with fail
                            refine wp_region_lat wr.heap.size (by kernel_rfl) (by kernel_rfl) ?_
                            have LC := fun (u : Lat wr.heap.size wr) => u.cell
                            repeat (go_big_quiet_step ((first | (go_at_call 33; (with_reducible exact lat_same _ (C2.out _ (HXB.out.below (Lat.below _))))) | (go_at_call 33; (with_reducible exact lat_same _ (C3.out _ (HYD.out.below (Lat.below _))))) | (go_at_call 42; (with_reducible exact lat_same _ (C4.out _))))))
                            refine wpQuiet_nil ?_
                            intro w4 hw4
                            clear LC
                            go_wp2
                            go_ret
                            exact ⟨ret_bool HV.out.symm, HWR.out.trans (hw4.mono HWR.out.size)⟩
                          | true =>
                            rw [p3] at C4
                            have HV := Lib.hid (show badI y x z = false by simp only [badI, p1, p2, p3, Bool.true_and, Bool.false_or, Bool.not_true])
                            go_wp2_with fail
                            refine wp_region_lat wr.heap.size (by kernel_rfl) (by kernel_rfl) ?_
                            have LC := fun (u : Lat wr.heap.size wr) => u.cell
                            repeat (go_big_quiet_step ((first | (go_at_call 33; (with_reducible exact lat_same _ (C2.out _ (HXB.out.below (Lat.below _))))) | (go_at_call 33; (with_reducible exact lat_same _ (C3.out _ (HYD.out.below (Lat.below _))))) | (go_at_call 42; (with_reducible exact lat_same _ (C4.out _))))))
                            refine wpQuiet_nil ?_
                            intro w4 hw4
                            clear LC
                            go_wp2
                            go_roundw
                            case rel =>
                              refine ⟨q + 1, by omega, by go_num, fun i y' hi hy' => ?_, hb.trans (hw4.mono hb.size)⟩
                              rcases Nat.lt_or_ge i q with h' | h'
                              · exact HI.out i y' h' hy'
                              · have : i = q := by omega
                                subst this; rw [HZ.out] at hy'; injection hy' with hy'; subst hy'; exact HV.out
                            case measure => simp [intOf]; omega
                    · have hdq : decide (q < y.items.length) = false := by simpa using hlq
                      have HFY := Lib.hid (freeI_yes (x := x) HOY.out (fun i z hi hz => HI.out i z (by omega) hz))
                      go_wp2
                      go_roundw
                      case rel =>
                        refine ⟨j + 1, by omega, by go_num, fun i y' hi hy' => ?_, HWR.out⟩
                        rcases Nat.lt_or_ge i j with h' | h'
                        · exact HF.out i y' h' hy'
                        · have : i = j := by omega
                          subst this; rw [HY.out] at hy'; injection hy' with hy'; subst hy'; exact HFY.out
                      case measure => simp [intOf]; omega
                · have hdj : decide (j < k) = false := by simpa using hjl
                  have HOK := Lib.hid (okAt_yes HX.out HO.out HBF.out (fun q y hq hy => HF.out q y (by omega) hy))
                  go_wp2
                  go_roundw
                  case rel =>
                    refine ⟨k + 1, by omega, by go_num, fun q hq => ?_, hb⟩
                    rcases Nat.lt_or_ge q k with h' | h'
                    · exact HR.out q h'
                    · have : q = k := by omega
                      subst this; exact HOK.out
                  case measure => simp [intOf]; omega
    · have hd : decide (k < n) = false := by simpa using hlt
      go_wp2
      go_ret
      exact ⟨ret_bool (by rw [goodA_end fun j hj => HR.out j (by have := HN.out; omega), HN.out]; exact decide_eq_decide.2 (by omega)), hb⟩
end Go.Proofs.YtehohkdipfphmaaDoor
