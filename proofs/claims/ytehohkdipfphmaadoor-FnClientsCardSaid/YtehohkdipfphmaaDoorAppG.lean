/- Approvals: whether one is valid by itself. -/
import Derived.Test.YtehohkdipfphmaaDoorAppW
namespace Go.Proofs.YtehohkdipfphmaaDoor
set_option linter.unusedVariables false
set_option linter.unusedSimpArgs false
open Go.RowKit

noncomputable def g1A (x : AR) : Bool := inR x.id 1 99 && (wordB x.client && (inR x.sent 0 4000 && (inR (x.items.length : Int) 1 8 && (inAll x.items 1 999 && ascB x.items))))
noncomputable def g2A (x : AR) : Bool := inR x.back 0 4000 && (decide (x.sent ≤ x.back) && (inAll x.kept 1 999 && ascB x.kept))
def kinA (x : AR) : Bool := x.kept.all (hasB x.items)
/-- Whether an approval is valid by itself. -/
noncomputable def oneA (x : AR) : Bool := g1A x && (if x.back = -1 then x.kept.isEmpty else g2A x && kinA x)
theorem kinA_no {x : AR} {k : Nat} {z : Int} (h : x.kept[k]? = some z) (hz : hasB x.items z = false) : kinA x = false := by
  unfold kinA; rw [List.all_eq_false]; exact ⟨z, List.mem_of_getElem? h, by simp [hz]⟩
theorem kinA_yes {x : AR} (h : ∀ (j : Nat) (z : Int), j < x.kept.length → x.kept[j]? = some z → hasB x.items z = true) : kinA x = true := by
  unfold kinA; rw [List.all_eq_true]
  intro z hz
  obtain ⟨j, hj, rfl⟩ := List.getElem_of_mem hz
  exact h j _ hj (List.getElem?_eq_getElem hj)
theorem oneA_g1 {x : AR} (h : g1A x = false) : oneA x = false := by simp [oneA, h]
theorem oneA_g2 {x : AR} (h : g2A x = false) (hb : ¬ x.back = -1) : oneA x = false := by simp [oneA, h, hb]
/-- The same, as the program tests it. -/
theorem oneA_impl (x : AR) : oneA x = (inR x.id 1 99 && (wordB x.client && (inR x.sent 0 4000 && (inR (x.items.length : Int) 1 8 && (ascB x.items && (ascB x.kept && (inAll x.items 1 999 && (kinA x && (if x.back = -1 ∧ x.kept = [] then true else inR x.back x.sent 4000))))))))) := by
  unfold oneA g1A
  cases h1 : inR x.id 1 99 <;> simp only [Bool.false_and, Bool.true_and]
  cases h2 : wordB x.client <;> simp only [Bool.false_and, Bool.true_and]
  cases h3 : inR x.sent 0 4000 <;> simp only [Bool.false_and, Bool.true_and]
  cases h4 : inR (x.items.length : Int) 1 8 <;> simp only [Bool.false_and, Bool.true_and]
  cases h5 : inAll x.items 1 999
  · simp only [Bool.false_and, Bool.and_false]
  simp only [Bool.true_and]
  cases h6 : ascB x.items <;> simp only [Bool.false_and, Bool.true_and]
  have hs := inR_true.1 h3
  by_cases hb : x.back = -1
  · rw [if_pos hb]
    cases hk : x.kept with
    | nil =>
      have e1 : ascB ([] : List Int) = true := ascB_yes (k := 0) (fun j a b hj => by omega) (Nat.le_refl _)
      have e2 : kinA x = true := by simp [kinA, hk]
      rw [e2, e1]; simp [hb]
    | cons z zs =>
      have e : inR x.back x.sent 4000 = false := by rw [inR_false]; omega
      rw [if_neg (by simp), e]; simp
  · rw [if_neg hb, if_neg (fun h => hb h.1)]
    unfold g2A
    cases h7 : kinA x
    · simp only [Bool.and_false, Bool.false_and]
    have h8 : inAll x.kept 1 999 = true := by
      unfold inAll; rw [List.all_eq_true]
      intro z hz
      unfold kinA at h7; rw [List.all_eq_true] at h7
      have := hasB_true.1 (h7 z hz)
      unfold inAll at h5; rw [List.all_eq_true] at h5
      exact h5 z this
    rw [h8]
    cases h9 : ascB x.kept <;> simp only [Bool.false_and, Bool.true_and, Bool.and_false, Bool.and_true]
    rw [Bool.eq_iff_iff]
    simp only [Bool.and_eq_true, inR_true, decide_eq_true_eq]
    omega

set_option maxRecDepth 20000 in
set_option maxHeartbeats 4000000 in
theorem l28One_any (x : AR) (B : Option Addr) (c : Nat) (D : Option Addr) (d : Nat) (w : World) (hB : Rd w B (cells1 x.items)) (hD : Rd w D (cells1 x.kept)) (hs : smA x) :
    Calls Tryd.prog 49 #[.agg #[.int .i64 x.id, .string x.client, .int .i64 x.sent, .slice B x.items.length c, .slice D x.kept.length d, .int .i64 x.back]] w (Ret (.bool (oneA x)) w) := by
  obtain ⟨hs0, hs1, hs2⟩ := hs
  have C1 := Lib.hid (fun w => l1In_any x.id 1 99 w)
  have C2 := Lib.hid (fun w => l2Word_any x.client w hs0)
  have C3 := Lib.hid (fun w => l2Day_any x.sent w)
  have C4 := Lib.hid (fun w => l1In_any (x.items.length : Int) 1 8 w)
  have C5 := Lib.hid (fun w h => l1Rising_any B _ c x.items 1 999 w rfl h hs1)
  have C6 := Lib.hid (fun w => l2Day_any x.back w)
  have C7 := Lib.hid (fun w h => l1Rising_any D _ d x.kept 1 999 w rfl h hs2)
  have HB := Lib.hid (hB.alloc (.cells #[.int .i64 x.id, .string x.client, .int .i64 x.sent, .slice B x.items.length c, .slice D x.kept.length d, .int .i64 x.back] 34))
  have HD := Lib.hid (hD.alloc (.cells #[.int .i64 x.id, .string x.client, .int .i64 x.sent, .slice B x.items.length c, .slice D x.kept.length d, .int .i64 x.back] 34))
  have HX := Lib.hid (Blk.new w [.int .i64 x.id, .string x.client, .int .i64 x.sent, .slice B x.items.length c, .slice D x.kept.length d, .int .i64 x.back] 34)
  have HW := Lib.hid ((Below.refl w.heap.size w).alloc (Nat.le_refl _) (.cells #[.int .i64 x.id, .string x.client, .int .i64 x.sent, .slice B x.items.length c, .slice D x.kept.length d, .int .i64 x.back] 34))
  clear hB hD
  cases h1 : inR x.id 1 99 with
  | false =>
    have HV := Lib.hid (oneA_g1 (x := x) (by simp only [g1A, h1, Bool.true_and, Bool.false_and]))
    rw [h1] at C1
    clear h1
    go_enter Tryd.func49, Tryd.ntmps49
    go_wp2_with fail
    refine (C1.out _).mono ?_
    rintro e w1 ⟨rfl, rfl⟩
    go_wp2
    go_ret
    exact ⟨ret_bool HV.out.symm, HW.out⟩
  | true =>
    rw [h1] at C1
    cases h2 : wordB x.client with
    | false =>
      have HV := Lib.hid (oneA_g1 (x := x) (by simp only [g1A, h1, h2, Bool.true_and, Bool.false_and]))
      rw [h2] at C2
      clear h1 h2
      go_enter Tryd.func49, Tryd.ntmps49
      go_wp2_with fail
      refine (C1.out _).mono ?_
      rintro e w1 ⟨rfl, rfl⟩
      go_wp2_with fail
      refine (C2.out _).mono ?_
      rintro e w1 ⟨rfl, rfl⟩
      go_wp2
      go_ret
      exact ⟨ret_bool HV.out.symm, HW.out⟩
    | true =>
      rw [h2] at C2
      cases h3 : inR x.sent 0 4000 with
      | false =>
        have HV := Lib.hid (oneA_g1 (x := x) (by simp only [g1A, h1, h2, h3, Bool.true_and, Bool.false_and]))
        rw [h3] at C3
        clear h1 h2 h3
        go_enter Tryd.func49, Tryd.ntmps49
        go_wp2_with fail
        refine (C1.out _).mono ?_
        rintro e w1 ⟨rfl, rfl⟩
        go_wp2_with fail
        refine (C2.out _).mono ?_
        rintro e w1 ⟨rfl, rfl⟩
        go_wp2_with fail
        refine (C3.out _).mono ?_
        rintro e w1 ⟨rfl, rfl⟩
        go_wp2
        go_ret
        exact ⟨ret_bool HV.out.symm, HW.out⟩
      | true =>
        rw [h3] at C3
        cases h4 : inR (x.items.length : Int) 1 8 with
        | false =>
          have HV := Lib.hid (oneA_g1 (x := x) (by simp only [g1A, h1, h2, h3, h4, Bool.true_and, Bool.false_and]))
          rw [h4] at C4
          clear h1 h2 h3 h4
          go_enter Tryd.func49, Tryd.ntmps49
          go_wp2_with fail
          refine (C1.out _).mono ?_
          rintro e w1 ⟨rfl, rfl⟩
          go_wp2_with fail
          refine (C2.out _).mono ?_
          rintro e w1 ⟨rfl, rfl⟩
          go_wp2_with fail
          refine (C3.out _).mono ?_
          rintro e w1 ⟨rfl, rfl⟩
          go_wp2_with fail
          refine (C4.out _).mono ?_
          rintro e w1 ⟨rfl, rfl⟩
          go_wp2
          go_ret
          exact ⟨ret_bool HV.out.symm, HW.out⟩
        | true =>
          rw [h4] at C4
          cases h5 : (inAll x.items 1 999 && ascB x.items) with
          | false =>
            have HV := Lib.hid (oneA_g1 (x := x) (by simp only [g1A, h1, h2, h3, h4, h5, Bool.true_and, Bool.false_and]))
            rw [h5] at C5
            clear h1 h2 h3 h4 h5
            go_enter Tryd.func49, Tryd.ntmps49
            go_wp2_with fail
            refine (C1.out _).mono ?_
            rintro e w1 ⟨rfl, rfl⟩
            go_wp2_with fail
            refine (C2.out _).mono ?_
            rintro e w1 ⟨rfl, rfl⟩
            go_wp2_with fail
            refine (C3.out _).mono ?_
            rintro e w1 ⟨rfl, rfl⟩
            go_wp2_with fail
            refine (C4.out _).mono ?_
            rintro e w1 ⟨rfl, rfl⟩
            go_wp2_with fail
            refine (C5.out _ HB.out).mono ?_
            rintro e w1 ⟨rfl, b1⟩
            go_wp2
            go_ret
            exact ⟨ret_bool HV.out.symm, HW.out.trans (b1.mono HW.out.size)⟩
          | true =>
            rw [h5] at C5
            have HG := Lib.hid (show g1A x = true by simp only [g1A, h1, h2, h3, h4, h5, Bool.true_and])
            clear h1 h2 h3 h4 h5
            by_cases hb : x.back = -1
            · have HV := Lib.hid (show oneA x = x.kept.isEmpty by rw [oneA, HG.out, if_pos hb]; rfl)
              have hbe : (x.back == -1) = true := by simp [hb]
              have HE := Lib.hid (show ((x.kept.length : Int) == 0) = x.kept.isEmpty by cases x.kept <;> simp; omega)
              clear hb
              go_enter Tryd.func49, Tryd.ntmps49
              go_wp2_with fail
              refine (C1.out _).mono ?_
              rintro e w1 ⟨rfl, rfl⟩
              go_wp2_with fail
              refine (C2.out _).mono ?_
              rintro e w1 ⟨rfl, rfl⟩
              go_wp2_with fail
              refine (C3.out _).mono ?_
              rintro e w1 ⟨rfl, rfl⟩
              go_wp2_with fail
              refine (C4.out _).mono ?_
              rintro e w1 ⟨rfl, rfl⟩
              go_wp2_with fail
              refine (C5.out _ HB.out).mono ?_
              rintro e w1 ⟨rfl, b1⟩
              have hx := HX.out.below b1 HX.out.lt
              have x5 := hx.cell 5 _ rfl
              have x4 := hx.cell 4 _ rfl
              clear hx
              go_wp2
              go_ret
              exact ⟨ret_bool (by rw [HV.out, ← HE.out]; try simp), HW.out.trans (b1.mono HW.out.size)⟩
            · have hbe : (x.back == -1) = false := by simp [hb]
              have HO : Hid (oneA x = (g2A x && kinA x)) := Lib.hid (by rw [oneA, HG.out, if_neg hb]; rfl)
              clear hb
              cases h6 : inR x.back 0 4000 with
              | false =>
                have HV := Lib.hid (show oneA x = false by rw [HO.out]; simp only [g2A, h6, Bool.false_and])
                rw [h6] at C6
                clear h6
                go_enter Tryd.func49, Tryd.ntmps49
                go_wp2_with fail
                refine (C1.out _).mono ?_
                rintro e w1 ⟨rfl, rfl⟩
                go_wp2_with fail
                refine (C2.out _).mono ?_
                rintro e w1 ⟨rfl, rfl⟩
                go_wp2_with fail
                refine (C3.out _).mono ?_
                rintro e w1 ⟨rfl, rfl⟩
                go_wp2_with fail
                refine (C4.out _).mono ?_
                rintro e w1 ⟨rfl, rfl⟩
                go_wp2_with fail
                refine (C5.out _ HB.out).mono ?_
                rintro e w1 ⟨rfl, b1⟩
                have HX1 := Lib.hid (HX.out.below b1 HX.out.lt)
                have HW1 := Lib.hid (HW.out.trans (b1.mono HW.out.size))
                have HD1 := Lib.hid (HD.out.below b1)
                have HB1 := Lib.hid (HB.out.below b1)
                have x5 := HX1.out.cell 5 _ rfl
                have x4 := HX1.out.cell 4 _ rfl
                have x2 := HX1.out.cell 2 _ rfl
                have x3 := HX1.out.cell 3 _ rfl
                clear b1
                go_wp2_with fail
                refine (C6.out _).mono ?_
                rintro e w3 ⟨rfl, rfl⟩
                go_wp2
                go_ret
                exact ⟨ret_bool HV.out.symm, HW1.out⟩
              | true =>
                rw [h6] at C6
                by_cases h7 : x.back < x.sent
                · have hd7 : decide (x.back < x.sent) = true := by simpa using h7
                  have HV := Lib.hid (show oneA x = false by rw [HO.out]; simp only [g2A, h6, Bool.true_and, show decide (x.sent ≤ x.back) = false by simp; omega, Bool.false_and])
                  clear h6
                  go_enter Tryd.func49, Tryd.ntmps49
                  go_wp2_with fail
                  refine (C1.out _).mono ?_
                  rintro e w1 ⟨rfl, rfl⟩
                  go_wp2_with fail
                  refine (C2.out _).mono ?_
                  rintro e w1 ⟨rfl, rfl⟩
                  go_wp2_with fail
                  refine (C3.out _).mono ?_
                  rintro e w1 ⟨rfl, rfl⟩
                  go_wp2_with fail
                  refine (C4.out _).mono ?_
                  rintro e w1 ⟨rfl, rfl⟩
                  go_wp2_with fail
                  refine (C5.out _ HB.out).mono ?_
                  rintro e w1 ⟨rfl, b1⟩
                  have HX1 := Lib.hid (HX.out.below b1 HX.out.lt)
                  have HW1 := Lib.hid (HW.out.trans (b1.mono HW.out.size))
                  have HD1 := Lib.hid (HD.out.below b1)
                  have HB1 := Lib.hid (HB.out.below b1)
                  have x5 := HX1.out.cell 5 _ rfl
                  have x4 := HX1.out.cell 4 _ rfl
                  have x2 := HX1.out.cell 2 _ rfl
                  have x3 := HX1.out.cell 3 _ rfl
                  clear b1
                  go_wp2_with fail
                  refine (C6.out _).mono ?_
                  rintro e w3 ⟨rfl, rfl⟩
                  go_wp2
                  go_ret
                  exact ⟨ret_bool HV.out.symm, HW1.out⟩
                · have hd7 : decide (x.back < x.sent) = false := by simpa using h7
                  have HS := Lib.hid (show decide (x.sent ≤ x.back) = true by simp; omega)
                  cases h8 : (inAll x.kept 1 999 && ascB x.kept) with
                  | false =>
                    have HV := Lib.hid (show oneA x = false by rw [HO.out]; simp only [g2A, h6, HS.out, h8, Bool.true_and, Bool.false_and])
                    rw [h8] at C7
                    clear h6 h8 h7
                    go_enter Tryd.func49, Tryd.ntmps49
                    go_wp2_with fail
                    refine (C1.out _).mono ?_
                    rintro e w1 ⟨rfl, rfl⟩
                    go_wp2_with fail
                    refine (C2.out _).mono ?_
                    rintro e w1 ⟨rfl, rfl⟩
                    go_wp2_with fail
                    refine (C3.out _).mono ?_
                    rintro e w1 ⟨rfl, rfl⟩
                    go_wp2_with fail
                    refine (C4.out _).mono ?_
                    rintro e w1 ⟨rfl, rfl⟩
                    go_wp2_with fail
                    refine (C5.out _ HB.out).mono ?_
                    rintro e w1 ⟨rfl, b1⟩
                    have HX1 := Lib.hid (HX.out.below b1 HX.out.lt)
                    have HW1 := Lib.hid (HW.out.trans (b1.mono HW.out.size))
                    have HD1 := Lib.hid (HD.out.below b1)
                    have HB1 := Lib.hid (HB.out.below b1)
                    have x5 := HX1.out.cell 5 _ rfl
                    have x4 := HX1.out.cell 4 _ rfl
                    have x2 := HX1.out.cell 2 _ rfl
                    have x3 := HX1.out.cell 3 _ rfl
                    clear b1
                    go_wp2_with fail
                    refine (C6.out _).mono ?_
                    rintro e w3 ⟨rfl, rfl⟩
                    go_wp2_with fail
                    refine (C7.out _ HD1.out).mono ?_
                    rintro e w3 ⟨rfl, b3⟩
                    go_wp2
                    go_ret
                    exact ⟨ret_bool HV.out.symm, HW1.out.trans (b3.mono HW1.out.size)⟩
                  | true =>
                    have HV := Lib.hid (show oneA x = kinA x by rw [HO.out]; simp only [g2A, h6, HS.out, h8, Bool.true_and])
                    rw [h8] at C7
                    clear h6 h8 h7
                    go_enter Tryd.func49, Tryd.ntmps49
                    go_wp2_with fail
                    refine (C1.out _).mono ?_
                    rintro e w1 ⟨rfl, rfl⟩
                    go_wp2_with fail
                    refine (C2.out _).mono ?_
                    rintro e w1 ⟨rfl, rfl⟩
                    go_wp2_with fail
                    refine (C3.out _).mono ?_
                    rintro e w1 ⟨rfl, rfl⟩
                    go_wp2_with fail
                    refine (C4.out _).mono ?_
                    rintro e w1 ⟨rfl, rfl⟩
                    go_wp2_with fail
                    refine (C5.out _ HB.out).mono ?_
                    rintro e w1 ⟨rfl, b1⟩
                    have HX1 := Lib.hid (HX.out.below b1 HX.out.lt)
                    have HW1 := Lib.hid (HW.out.trans (b1.mono HW.out.size))
                    have HD1 := Lib.hid (HD.out.below b1)
                    have HB1 := Lib.hid (HB.out.below b1)
                    have x5 := HX1.out.cell 5 _ rfl
                    have x4 := HX1.out.cell 4 _ rfl
                    have x2 := HX1.out.cell 2 _ rfl
                    have x3 := HX1.out.cell 3 _ rfl
                    clear b1
                    go_wp2_with fail
                    refine (C6.out _).mono ?_
                    rintro e w3 ⟨rfl, rfl⟩
                    go_wp2_with fail
                    refine (C7.out _ HD1.out).mono ?_
                    rintro e w3 ⟨rfl, b3⟩
                    have HX3 := Lib.hid (HX1.out.below b3 HX1.out.lt)
                    have HW3 := Lib.hid (HW1.out.trans (b3.mono HW1.out.size))
                    have HD3 := Lib.hid (HD1.out.below b3)
                    have HB3 := Lib.hid (HB1.out.below b3)
                    clear b3 x2 x3 x4 x5
                    have hs3 := HX3.out.lt
                    go_wp2_with fail
                    go_loopw [3] (fun i wr => ∃ k : Nat, k ≤ x.kept.length ∧ i = .int .i64 k ∧ (∀ (j : Nat) (z : Int), j < k → x.kept[j]? = some z → hasB x.items z = true) ∧ Below w3.heap.size w3 wr) (fun i _ => x.kept.length - (intOf i).toNat)
                    case atStart => exact ⟨0, Nat.zero_le _, rfl, fun j z hj => by omega, Below.refl _ _⟩
                    case round =>
                      obtain ⟨k, hk, rfl, hrel, hb⟩ := hrel
                      have HR := Lib.hid hrel
                      clear hrel
                      have x3 := (HX3.out.below hb hs3).cell 3 _ rfl
                      have x4 := (HX3.out.below hb hs3).cell 4 _ rfl
                      have HWR := Lib.hid (HW3.out.trans (hb.mono HW3.out.size))
                      by_cases hlt : k < x.kept.length
                      · obtain ⟨z, hzk⟩ : ∃ z, x.kept[k]? = some z := ⟨x.kept[k], List.getElem?_eq_getElem hlt⟩
                        obtain ⟨g, o, hDe, hg, c0⟩ := (HD3.out.below hb).at1 hzk
                        subst hDe
                        have HZ := Lib.hid hzk
                        have C8 := Lib.hid (fun w h => l1Has_any B _ c x.items z w rfl h hs1)
                        have HBR := Lib.hid (HB3.out.below hb)
                        have hws : w.heap.size < wr.heap.size := Nat.lt_of_lt_of_le hs3 hb.size
                        clear hzk
                        cases h9 : hasB x.items z with
                        | false =>
                          rw [h9] at C8
                          have HV2 := Lib.hid (HV.out.trans (kinA_no HZ.out h9))
                          clear h9
                          go_wp2_with fail
                          refine wp_region_lat wr.heap.size (by kernel_rfl) (by kernel_rfl) ?_
                          have LC := fun (u : Lat wr.heap.size wr) => u.cell
                          repeat (go_big_quiet_step ((go_at_call 35; (with_reducible exact lat_same _ (C8.out _ (HBR.out.below (Lat.below _)))))))
                          refine wpQuiet_nil ?_
                          intro w4 hw4
                          clear LC
                          go_wp2
                          go_ret
                          exact ⟨ret_bool HV2.out.symm, HWR.out.trans (hw4.mono HWR.out.size)⟩
                        | true =>
                          rw [h9] at C8
                          have H9 := Lib.hid h9
                          clear h9
                          go_wp2_with fail
                          refine wp_region_lat wr.heap.size (by kernel_rfl) (by kernel_rfl) ?_
                          have LC := fun (u : Lat wr.heap.size wr) => u.cell
                          repeat (go_big_quiet_step ((go_at_call 35; (with_reducible exact lat_same _ (C8.out _ (HBR.out.below (Lat.below _)))))))
                          refine wpQuiet_nil ?_
                          intro w4 hw4
                          clear LC
                          go_wp2
                          go_roundw
                          case rel =>
                            refine ⟨k + 1, by omega, by go_num, fun j y hj hy => ?_, hb.trans (hw4.mono hb.size)⟩
                            rcases Nat.lt_or_ge j k with h' | h'
                            · exact HR.out j y h' hy
                            · have : j = k := by omega
                              subst this; rw [HZ.out] at hy; injection hy with hy; subst hy; exact H9.out
                          case measure => simp [intOf]; omega
                      · have HV2 := Lib.hid (HV.out.trans (kinA_yes fun j z hj hz => HR.out j z (by omega) hz))
                        have hdk : decide (k < x.kept.length) = false := by simpa using hlt
                        go_wp2
                        go_ret
                        exact ⟨ret_bool HV2.out.symm, HWR.out⟩
end Go.Proofs.YtehohkdipfphmaaDoor
