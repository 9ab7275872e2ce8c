/- Approvals: whether one is valid by itself: the program. -/
import Derived.Test.YtehohkdipfphmaaDoorAppG
namespace Go.Proofs.YtehohkdipfphmaaDoor
set_option linter.unusedVariables false
set_option linter.unusedSimpArgs false
open Go.RowKit

set_option maxRecDepth 20000 in
set_option maxHeartbeats 4000000 in
theorem isApproval_any (x : AR) (g o : Nat) (B : Option Addr) (c : Nat) (D : Option Addr) (d : Nat) (w : World) (hr : RowA w g o B c D d x) (hs : smA x) :
    Calls Tryd.prog 54 #[.pointer (some ⟨g, o, none⟩)] w (Ret (.bool (oneA x)) w) := by
  obtain ⟨hs0, hs1, hs2⟩ := hs
  have C1 := Lib.hid (fun w => inRange_any x.id 1 99 w)
  have C2 := Lib.hid (fun w => isWord_any x.client w hs0)
  have C3 := Lib.hid (fun w => isDay_any x.sent w)
  have C4 := Lib.hid (fun w => inRange_any (x.items.length : Int) 1 8 w)
  have C5 := Lib.hid (fun w h => ascending_any B _ c x.items w rfl h hs1)
  have C6 := Lib.hid (fun w h => ascending_any D _ d x.kept w rfl h hs2)
  have HR := Lib.hid hr
  have HV := Lib.hid (oneA_impl x)
  obtain ⟨hg, -, c0, c1, c2, c3, c4, c5, -, -, -, -, -, -⟩ := hr
  cases h1 : inR x.id 1 99 with
  | false =>
    have HF : Hid (oneA x = false) := Lib.hid (HV.out.trans (by simp only [h1, Bool.false_and]))
    rw [h1] at C1
    clear h1
    go_enter Tryd.func54, Tryd.ntmps54
    go_wp2_with fail
    refine (C1.out _).mono ?_
    rintro e w1 ⟨rfl, rfl⟩
    go_wp2
    go_ret
    exact ⟨ret_bool HF.out.symm, Below.refl _ _⟩
  | true =>
    rw [h1] at C1
    rw [h1, Bool.true_and] at HV
    clear h1
    cases h2 : wordB x.client with
    | false =>
      have HF : Hid (oneA x = false) := Lib.hid (HV.out.trans (by simp only [h2, Bool.false_and]))
      rw [h2] at C2
      clear h2
      go_enter Tryd.func54, Tryd.ntmps54
      go_wp2_with fail
      refine (C1.out _).mono ?_
      rintro e w1 ⟨rfl, rfl⟩
      go_wp2_with fail
      refine (C2.out _).mono ?_
      rintro e w1 ⟨rfl, rfl⟩
      go_wp2
      go_ret
      exact ⟨ret_bool HF.out.symm, Below.refl _ _⟩
    | true =>
      rw [h2] at C2
      rw [h2, Bool.true_and] at HV
      clear h2
      cases h3 : inR x.sent 0 4000 with
      | false =>
        have HF : Hid (oneA x = false) := Lib.hid (HV.out.trans (by simp only [h3, Bool.false_and]))
        rw [h3] at C3
        clear h3
        go_enter Tryd.func54, Tryd.ntmps54
        go_wp2_with fail
        refine (C1.out _).mono ?_
        rintro e w1 ⟨rfl, rfl⟩
        go_wp2_with fail
        refine (C2.out _).mono ?_
        rintro e w1 ⟨rfl, rfl⟩
        go_wp2_with fail
        refine (C3.out _).mono ?_
        rintro e w1 ⟨rfl, rfl⟩
        go_wp2
        go_ret
        exact ⟨ret_bool HF.out.symm, Below.refl _ _⟩
      | true =>
        rw [h3] at C3
        rw [h3, Bool.true_and] at HV
        have hsent := inR_true.1 h3
        clear h3
        cases h4 : inR (x.items.length : Int) 1 8 with
        | false =>
          have HF : Hid (oneA x = false) := Lib.hid (HV.out.trans (by simp only [h4, Bool.false_and]))
          rw [h4] at C4
          clear h4
          go_enter Tryd.func54, Tryd.ntmps54
          go_wp2_with fail
          refine (C1.out _).mono ?_
          rintro e w1 ⟨rfl, rfl⟩
          go_wp2_with fail
          refine (C2.out _).mono ?_
          rintro e w1 ⟨rfl, rfl⟩
          go_wp2_with fail
          refine (C3.out _).mono ?_
          rintro e w1 ⟨rfl, rfl⟩
          go_wp2_with fail
          refine (C4.out _).mono ?_
          rintro e w1 ⟨rfl, rfl⟩
          go_wp2
          go_ret
          exact ⟨ret_bool HF.out.symm, Below.refl _ _⟩
        | true =>
          rw [h4] at C4
          rw [h4, Bool.true_and] at HV
          clear h4
          cases h5 : ascB x.items with
          | false =>
            have HF : Hid (oneA x = false) := Lib.hid (HV.out.trans (by simp only [h5, Bool.false_and]))
            rw [h5] at C5
            clear h5
            go_enter Tryd.func54, Tryd.ntmps54
            go_wp2_with fail
            refine (C1.out _).mono ?_
            rintro e w1 ⟨rfl, rfl⟩
            go_wp2_with fail
            refine (C2.out _).mono ?_
            rintro e w1 ⟨rfl, rfl⟩
            go_wp2_with fail
            refine (C3.out _).mono ?_
            rintro e w1 ⟨rfl, rfl⟩
            go_wp2_with fail
            refine (C4.out _).mono ?_
            rintro e w1 ⟨rfl, rfl⟩
            go_wp2_with fail
            refine (C5.out _ HR.out.rB).mono ?_
            rintro e w1 ⟨rfl, b1⟩
            have HR1 := Lib.hid (HR.out.below b1)
            obtain ⟨hg1, -, d0, d1, d2, d3, d4, d5, -, -, -, -, -, -⟩ := HR1.out
            go_wp2
            go_ret
            exact ⟨ret_bool HF.out.symm, b1⟩
          | true =>
            rw [h5] at C5
            rw [h5, Bool.true_and] at HV
            clear h5
            cases h6 : ascB x.kept with
            | false =>
              have HF : Hid (oneA x = false) := Lib.hid (HV.out.trans (by simp only [h6, Bool.false_and]))
              rw [h6] at C6
              clear h6
              go_enter Tryd.func54, Tryd.ntmps54
              go_wp2_with fail
              refine (C1.out _).mono ?_
              rintro e w1 ⟨rfl, rfl⟩
              go_wp2_with fail
              refine (C2.out _).mono ?_
              rintro e w1 ⟨rfl, rfl⟩
              go_wp2_with fail
              refine (C3.out _).mono ?_
              rintro e w1 ⟨rfl, rfl⟩
              go_wp2_with fail
              refine (C4.out _).mono ?_
              rintro e w1 ⟨rfl, rfl⟩
              go_wp2_with fail
              refine (C5.out _ HR.out.rB).mono ?_
              rintro e w1 ⟨rfl, b1⟩
              have HR1 := Lib.hid (HR.out.below b1)
              obtain ⟨hg1, -, d0, d1, d2, d3, d4, d5, -, -, -, -, -, -⟩ := HR1.out
              go_wp2_with fail
              refine (C6.out _ HR1.out.rD).mono ?_
              rintro e w2 ⟨rfl, b2⟩
              have HR2 := Lib.hid (HR1.out.below b2)
              have HW2 := Lib.hid (b1.trans (b2.mono b1.size))
              obtain ⟨hg2, -, f0, f1, f2, f3, f4, f5, -, -, -, -, -, -⟩ := HR2.out
              go_wp2
              go_ret
              exact ⟨ret_bool HF.out.symm, HW2.out⟩
            | true =>
              rw [h6] at C6
              rw [h6, Bool.true_and] at HV
              clear h6
              go_enter Tryd.func54, Tryd.ntmps54
              go_wp2_with fail
              refine (C1.out _).mono ?_
              rintro e w1 ⟨rfl, rfl⟩
              go_wp2_with fail
              refine (C2.out _).mono ?_
              rintro e w1 ⟨rfl, rfl⟩
              go_wp2_with fail
              refine (C3.out _).mono ?_
              rintro e w1 ⟨rfl, rfl⟩
              go_wp2_with fail
              refine (C4.out _).mono ?_
              rintro e w1 ⟨rfl, rfl⟩
              go_wp2_with fail
              refine (C5.out _ HR.out.rB).mono ?_
              rintro e w1 ⟨rfl, b1⟩
              have HR1 := Lib.hid (HR.out.below b1)
              obtain ⟨hg1, -, d0, d1, d2, d3, d4, d5, -, -, -, -, -, -⟩ := HR1.out
              go_wp2_with fail
              refine (C6.out _ HR1.out.rD).mono ?_
              rintro e w2 ⟨rfl, b2⟩
              have HR2 := Lib.hid (HR1.out.below b2)
              have HW2 := Lib.hid (b1.trans (b2.mono b1.size))
              obtain ⟨hg2, -, f0, f1, f2, f3, f4, f5, -, -, -, -, -, -⟩ := HR2.out
              clear b1 b2 d0 d1 d2 d3 d4 d5 c0 c1 c2 c3 c4 c5
              have hz2 : w.heap.size ≤ w2.heap.size := HW2.out.size
              go_wp2_with fail
              go_loopw [4, 59] (fun _ i wr => ∃ k : Nat, k ≤ x.items.length ∧ i = .int .i64 k ∧ inAllP x.items 1 999 k ∧ Below w2.heap.size w2 wr) (fun _ i _ => x.items.length - (intOf i).toNat)
              case atStart => exact ⟨0, Nat.zero_le _, rfl, fun j z hj => by omega, Below.refl _ _⟩
              case round =>
                obtain ⟨k, hk, rfl, hrel, hb⟩ := hrel
                have HI := Lib.hid hrel
                clear hrel
                have HRR := Lib.hid (HR2.out.below hb)
                have HWR := Lib.hid (HW2.out.trans (hb.mono hz2))
                have hzr := HWR.out.size
                obtain ⟨hg3, -, e0, e1, e2, e3, e4, e5, -, -, -, -, -, -⟩ := HRR.out
                by_cases hlt : k < x.items.length
                · obtain ⟨z, hzk⟩ : ∃ z, x.items[k]? = some z := ⟨x.items[k], List.getElem?_eq_getElem hlt⟩
                  obtain ⟨gi, oi, hDe, hgi, z0⟩ := HRR.out.rB.at1 hzk
                  subst hDe
                  have HZ := Lib.hid hzk
                  have C7 := Lib.hid (fun w => isItem_any z w)
                  clear hzk
                  cases h9 : inR z 1 999 with
                  | false =>
                    rw [h9] at C7
                    have HF : Hid (oneA x = false) := Lib.hid (HV.out.trans (by simp only [inAll_no HZ.out h9, Bool.false_and]))
                    clear h9
                    go_wp2_with fail
                    refine (C7.out _).mono ?_
                    rintro e w3 ⟨rfl, rfl⟩
                    go_wp2
                    go_ret
                    exact ⟨ret_bool HF.out.symm, HWR.out⟩
                  | true =>
                    rw [h9] at C7
                    have H9 := Lib.hid h9
                    clear h9
                    go_wp2_with fail
                    refine (C7.out _).mono ?_
                    rintro e w3 ⟨rfl, rfl⟩
                    go_wp2
                    go_roundw
                    case rel => exact ⟨k + 1, by omega, by go_num, HI.out.step HZ.out H9.out, hb⟩
                    case measure => simp [intOf]; omega
                · have hdk : decide (k < x.items.length) = false := by simpa using hlt
                  rw [inAll_yes HI.out (by omega), Bool.true_and] at HV
                  clear HI hlt hk hg2 f0 f1 f2 f3 f4 f5
                  go_wp2_with fail
                  go_loopw [6, 72] (fun _ i w3 => ∃ q : Nat, q ≤ x.kept.length ∧ i = .int .i64 q ∧ (∀ (j : Nat) (z : Int), j < q → x.kept[j]? = some z → hasB x.items z = true) ∧ Below wr.heap.size wr w3) (fun _ i _ => x.kept.length - (intOf i).toNat)
                  case atStart => exact ⟨0, Nat.zero_le _, rfl, fun j z hj => by omega, Below.refl _ _⟩
                  case round =>
                    obtain ⟨q, hq, rfl, hrel, hb3⟩ := hrel
                    have HI := Lib.hid hrel
                    clear hrel e0 e1 e2 e3 e4 e5
                    have HR3 := Lib.hid (HRR.out.below hb3)
                    have HW3 := Lib.hid (HWR.out.trans (hb3.mono hzr))
                    have hz3 := HW3.out.size
                    obtain ⟨hg4, -, e0, e1, e2, e3, e4, e5, -, -, -, -, -, -⟩ := HR3.out
                    by_cases hlq : q < x.kept.length
                    · obtain ⟨z, hzk⟩ : ∃ z, x.kept[q]? = some z := ⟨x.kept[q], List.getElem?_eq_getElem hlq⟩
                      obtain ⟨gi, oi, hDe, hgi, z0⟩ := HR3.out.rD.at1 hzk
                      subst hDe
                      have HZ := Lib.hid hzk
                      have C8 := Lib.hid (fun w h => containsInt_any B _ c x.items z w rfl h hs1)
                      clear hzk
                      cases h9 : hasB x.items z with
                      | false =>
                        rw [h9] at C8
                        have HF : Hid (oneA x = false) := Lib.hid (HV.out.trans (by simp only [kinA_no HZ.out h9, Bool.false_and]))
                        clear h9
                        go_wp2_with fail
                        refine (C8.out _ HR3.out.rB).mono ?_
                        rintro e w5 ⟨rfl, rfl⟩
                        go_wp2
                        go_ret
                        exact ⟨ret_bool HF.out.symm, HW3.out⟩
                      | true =>
                        rw [h9] at C8
                        have H9 := Lib.hid h9
                        clear h9
                        go_wp2_with fail
                        refine (C8.out _ HR3.out.rB).mono ?_
                        rintro e w5 ⟨rfl, rfl⟩
                        go_wp2
                        go_roundw
                        case rel =>
                          refine ⟨q + 1, by omega, by go_num, fun j y hj hy => ?_, hb3⟩
                          rcases Nat.lt_or_ge j q with h' | h'
                          · exact HI.out j y h' hy
                          · have : j = q := by omega
                            subst this; rw [HZ.out] at hy; injection hy with hy; subst hy; exact H9.out
                        case measure => simp [intOf]; omega
                    · have hdq : decide (q < x.kept.length) = false := by simpa using hlq
                      rw [kinA_yes fun j z hj hz => HI.out j z (by omega) hz, Bool.true_and] at HV
                      have C9 := Lib.hid (fun w => inRange_any x.back x.sent 4000 w)
                      clear HI hlq hq
                      by_cases hb1 : x.back = -1
                      · have hbe : (x.back == -1) = true := by simp [hb1]
                        by_cases hk0 : x.kept.length = 0
                        · have hke : ((x.kept.length : Int) == 0) = true := by simp [hk0]
                          have hke' : (x.kept.length == 0) = true := by simp [hk0]
                          rw [if_pos ⟨hb1, List.eq_nil_of_length_eq_zero hk0⟩] at HV
                          clear hb1 hk0
                          go_wp2_with fail
                          refine wp_region_lat wr.heap.size (by kernel_rfl) (by kernel_rfl) ?_
                          have LC := fun (u : Lat wr.heap.size wr) => u.cell
                          repeat (go_big_quiet_step ((go_at_call 42; exact lat_same _ (C9.out _))))
                          refine wpQuiet_nil ?_
                          intro w5 hw5
                          clear LC
                          go_wp2
                          go_ret
                          exact ⟨ret_bool HV.out.symm, HW3.out.trans (hw5.mono HW3.out.size)⟩
                        · have hke : ((x.kept.length : Int) == 0) = false := by simp; intro h; exact hk0 (by rw [h]; rfl)
                          have hke' : (x.kept.length == 0) = false := by simpa using hk0
                          rw [if_neg (fun h => hk0 (by rw [h.2]; rfl))] at HV
                          obtain ⟨qv, hqv⟩ : ∃ v, v = inR x.back x.sent 4000 := ⟨_, rfl⟩
                          rw [← hqv] at HV C9
                          clear hb1 hk0 hqv
                          go_wp2_with fail
                          refine wp_region_lat wr.heap.size (by kernel_rfl) (by kernel_rfl) ?_
                          have LC := fun (u : Lat wr.heap.size wr) => u.cell
                          repeat (go_big_quiet_step ((go_at_call 42; exact lat_same _ (C9.out _))))
                          refine wpQuiet_nil ?_
                          intro w5 hw5
                          clear LC
                          go_wp2
                          go_ret
                          exact ⟨ret_bool HV.out.symm, HW3.out.trans (hw5.mono HW3.out.size)⟩
                      · have hbe : (x.back == -1) = false := by simp [hb1]
                        rw [if_neg (fun h => hb1 h.1)] at HV
                        obtain ⟨qv, hqv⟩ : ∃ v, v = inR x.back x.sent 4000 := ⟨_, rfl⟩
                        rw [← hqv] at HV C9
                        clear hb1 hqv
                        go_wp2_with fail
                        refine wp_region_lat wr.heap.size (by kernel_rfl) (by kernel_rfl) ?_
                        have LC := fun (u : Lat wr.heap.size wr) => u.cell
                        repeat (go_big_quiet_step ((go_at_call 42; exact lat_same _ (C9.out _))))
                        refine wpQuiet_nil ?_
                        intro w5 hw5
                        clear LC
                        go_wp2
                        go_ret
                        exact ⟨ret_bool HV.out.symm, HW3.out.trans (hw5.mono HW3.out.size)⟩
end Go.Proofs.YtehohkdipfphmaaDoor
