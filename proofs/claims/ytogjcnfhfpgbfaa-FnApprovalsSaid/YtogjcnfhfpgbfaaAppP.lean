/- Approvals: WhereIs. -/
import Derived.Test.YtogjcnfhfpgbfaaAppN
namespace Go.Proofs.Ytogjcnfhfpgbfaa
set_option linter.unusedVariables false
set_option linter.unusedSimpArgs false
open Go.RowKit

theorem kept_sub {x : AR} {z : Int} (h : oneA x = true) (hz : hasB x.kept z = true) : hasB x.items z = true := by
  rw [oneA_impl] at h
  simp only [Bool.and_eq_true] at h
  have h2 := h.2.2.2.2.2.2.2.1
  unfold kinA at h2; rw [List.all_eq_true] at h2
  exact h2 z (hasB_true.1 hz)
def outB (x : AR) (day : Int) : Bool := decide (x.sent ≤ day) && !inR x.back 0 day
def heldA (x : AR) (item day : Int) : Bool := x.back == -1 || (decide (day < x.back) || hasB x.kept item)
def whoStep (item day : Int) (who : ByteArray) (x : AR) : ByteArray := if hasB x.items item = true ∧ x.sent ≤ day then (if heldA x item day = true then x.client else ⟨#[]⟩) else who
def whoP (xs : List AR) (item day : Int) (k : Nat) : ByteArray := (xs.take k).foldl (whoStep item day) ⟨#[]⟩
theorem whoP_step {xs : List AR} {item day : Int} {k : Nat} {x : AR} (h : xs[k]? = some x) : whoP xs item day (k + 1) = whoStep item day (whoP xs item day k) x := by
  simp [whoP, List.take_add_one, h]
theorem who_empty {xs : List AR} {item day : Int} {x : AR} {k : Nat} (hf : ∀ (j : Nat) (y : AR), j < k → xs[j]? = some y → freeB y x = true ∧ oneA y = true) (h1 : hasB x.items item = true) (h2 : x.sent ≤ day) : ∀ j : Nat, j ≤ k → whoP xs item day j = ⟨#[]⟩
  | 0, _ => by simp [whoP]
  | j + 1, hj => by
    have ih := who_empty hf h1 h2 j (by omega)
    cases hy : xs[j]? with
    | none =>
      have e : whoP xs item day (j + 1) = whoP xs item day j := by simp [whoP, List.take_add_one, hy]
      rw [e]; exact ih
    | some y =>
      rw [whoP_step hy, ih, whoStep]
      split
      · rename_i hc
        obtain ⟨hfr, ho⟩ := hf j y (by omega) hy
        have := freeB_at hfr h1
        unfold badZ at this
        rw [hc.1, Bool.true_and] at this
        simp only [Bool.or_eq_false_iff, beq_eq_false_iff_ne, decide_eq_false_iff_not] at this
        obtain ⟨t1, t2, t3⟩ := this
        rw [if_neg]
        simp only [heldA, Bool.or_eq_true, beq_iff_eq, decide_eq_true_eq, t3, Bool.false_eq_true, or_false]
        omega
      · rfl
/-- The program's step. -/
theorem who_impl {xs : List AR} {item day : Int} {k : Nat} {x : AR} (hx : xs[k]? = some x) (ho : oneA x = true) (hd : 0 ≤ day) (hf : ∀ (j : Nat) (y : AR), j < k → xs[j]? = some y → freeB y x = true ∧ oneA y = true) :
    whoP xs item day (k + 1) = if ((outB x day && hasB x.items item) || (decide (x.sent ≤ day) && hasB x.kept item)) = true then x.client else whoP xs item day k := by
  rw [whoP_step hx, whoStep]
  have hb := one_back ho
  by_cases h : hasB x.items item = true ∧ x.sent ≤ day
  · rw [if_pos h, who_empty hf h.1 h.2 k (Nat.le_refl _)]
    have e : ((outB x day && hasB x.items item) || (decide (x.sent ≤ day) && hasB x.kept item)) = heldA x item day := by
      rw [h.1, Bool.and_true]
      cases hk : hasB x.kept item with
      | true => simp [heldA, hk, h.2]
      | false =>
        obtain ⟨-, hs⟩ := h
        rw [Bool.eq_iff_iff]
        simp only [outB, heldA, hk, Bool.and_false, Bool.or_false, Bool.and_eq_true, decide_eq_true_eq, Bool.not_eq_true', inR_false, Bool.or_eq_true, beq_iff_eq]
        omega
    rw [e]
  · rw [if_neg h, if_neg]
    intro hc
    simp only [Bool.or_eq_true, Bool.and_eq_true, decide_eq_true_eq, outB] at hc
    rcases hc with ⟨⟨h1, -⟩, h2⟩ | ⟨h1, h2⟩
    · exact h ⟨h2, h1⟩
    · exact h ⟨kept_sub ho h2, h1⟩
noncomputable def whB (xs : List AR) (item day : Int) : Bool := goodA xs && (inR item 1 999 && inR day 0 4000)
noncomputable def whV (xs : List AR) (item day : Int) : ByteArray := if whB xs item day = true then whoP xs item day xs.length else ⟨#[]⟩
theorem goodA_pairs {xs : List AR} {k : Nat} {x : AR} (h : goodA xs = true) (hx : xs[k]? = some x) : ∀ (j : Nat) (y : AR), j < k → xs[j]? = some y → freeB y x = true ∧ oneA y = true := fun j y hj hy =>
  ⟨okAt_free ((goodA_yes h).1 k) hx hy hj, okAt_one ((goodA_yes h).1 j) hy⟩
theorem ret_sb {a b : ByteArray} {c d : Bool} (h : a = b) (g : c = d) : Ending.returned (.tuple #[.string a, .bool c]) = .returned (.tuple #[.string b, .bool d]) := by rw [h, g]

theorem isOut_any (x : AR) (B : Option Addr) (c : Nat) (D : Option Addr) (d : Nat) (day : Int) (w : World) :
    Calls Try.prog 39 #[.agg #[.int .i64 x.id, .string x.client, .int .i64 x.sent, .slice B x.items.length c, .slice D x.kept.length d, .int .i64 x.back], .int .i64 day] w (Ret (.bool (outB x day)) w) := by
  have C := Lib.hid (fun w => inRange_any x.back 0 day w)
  by_cases h : x.sent ≤ day
  · have HV := Lib.hid (show outB x day = !inR x.back 0 day by simp [outB, h])
    go_enter Try.func39, Try.ntmps39
    go_wp2_with fail
    refine (C.out _).mono ?_
    rintro e w1 ⟨rfl, rfl⟩
    go_wp2
    go_ret
    exact ⟨ret_bool HV.out.symm, (Below.refl _ _).alloc (Nat.le_refl _) _⟩
  · have HV := Lib.hid (show outB x day = false by simp [outB, h])
    go_enter Try.func39, Try.ntmps39
    go_wp2
    go_ret
    exact ⟨ret_bool HV.out.symm, (Below.refl _ _).alloc (Nat.le_refl _) _⟩


set_option maxRecDepth 20000 in
set_option maxHeartbeats 4000000 in
theorem specWhereIs_any (A : Option Addr) (n c : Nat) (xs : List AR) (item day : Int) (w : World) (hn : xs.length = n) (hA : RdA w A xs) (h20 : n ≤ 1048576) (hw : ∀ x ∈ xs, smA x) (hcap : n ≤ c ∧ c ≤ maxLen) :
    Calls Try.prog 17 #[.slice A n c, .int .i64 item, .int .i64 day] w (Ret (.tuple #[.string (whV xs item day), .bool (whB xs item day)]) w) := by
  have C0 := Lib.hid (fun w h => l28Good_any A n c xs w hn h (by omega) hw)
  have C1 := Lib.hid (fun w => l1In_any item 1 999 w)
  have C2 := Lib.hid (fun w => l2Day_any day w)
  have HA := Lib.hid hA
  have HW := Lib.hid hw
  have HN := Lib.hid hn
  obtain ⟨V, hV⟩ : ∃ V, V = whV xs item day := ⟨_, rfl⟩
  obtain ⟨Q, hQ⟩ : ∃ Q, Q = whB xs item day := ⟨_, rfl⟩
  rw [← hV, ← hQ]
  have HV := Lib.hid hV
  have HQ := Lib.hid hQ
  clear hV hQ hn hA hw hcap
  cases h0 : goodA xs with
  | false =>
    have HF : Hid (whB xs item day = false) := Lib.hid (by simp only [whB, h0, Bool.true_and, Bool.false_and])
    rw [h0] at C0
    clear h0
    go_enter Try.func17, Try.ntmps17
    go_wp2_with fail
    refine (C0.out _ HA.out).mono ?_
    rintro e w1 ⟨rfl, b1⟩
    go_wp2
    go_ret2
    exact ⟨ret_sb (by rw [HV.out, whV, if_neg (by rw [HF.out]; simp)]) (by rw [HQ.out, HF.out]), b1⟩
  | true =>
    rw [h0] at C0
    cases h1 : inR item 1 999 with
    | false =>
      have HF : Hid (whB xs item day = false) := Lib.hid (by simp only [whB, h0, h1, Bool.true_and, Bool.false_and])
      rw [h1] at C1
      clear h0 h1
      go_enter Try.func17, Try.ntmps17
      go_wp2_with fail
      refine (C0.out _ HA.out).mono ?_
      rintro e w1 ⟨rfl, b1⟩
      go_wp2_with fail
      refine (C1.out _).mono ?_
      rintro e w2 ⟨rfl, rfl⟩
      go_wp2
      go_ret2
      exact ⟨ret_sb (by rw [HV.out, whV, if_neg (by rw [HF.out]; simp)]) (by rw [HQ.out, HF.out]), b1⟩
    | true =>
      rw [h1] at C1
      cases h2 : inR day 0 4000 with
      | false =>
        have HF : Hid (whB xs item day = false) := Lib.hid (by simp only [whB, h0, h1, h2, Bool.true_and, Bool.false_and])
        rw [h2] at C2
        clear h0 h1 h2
        go_enter Try.func17, Try.ntmps17
        go_wp2_with fail
        refine (C0.out _ HA.out).mono ?_
        rintro e w1 ⟨rfl, b1⟩
        go_wp2_with fail
        refine (C1.out _).mono ?_
        rintro e w2 ⟨rfl, rfl⟩
        go_wp2_with fail
        refine (C2.out _).mono ?_
        rintro e w2 ⟨rfl, rfl⟩
        go_wp2
        go_ret2
        exact ⟨ret_sb (by rw [HV.out, whV, if_neg (by rw [HF.out]; simp)]) (by rw [HQ.out, HF.out]), b1⟩
      | true =>
        rw [h2] at C2
        have HT : Hid (whB xs item day = true) := Lib.hid (by simp only [whB, h0, h1, h2, Bool.true_and])
        have HG := Lib.hid h0
        obtain ⟨hd0, hd1⟩ := inR_true.1 h2
        clear h0 h1 h2
        go_enter Try.func17, Try.ntmps17
        go_wp2_with fail
        refine (C0.out _ HA.out).mono ?_
        rintro e w1 ⟨rfl, b1⟩
        go_wp2_with fail
        refine (C1.out _).mono ?_
        rintro e w2 ⟨rfl, rfl⟩
        go_wp2_with fail
        refine (C2.out _).mono ?_
        rintro e w2 ⟨rfl, rfl⟩
        have HB1 := Lib.hid b1
        clear b1
        go_wp2_with fail
        go_loopw [8, 9] (fun s i wr => ∃ k : Nat, k ≤ n ∧ i = .int .i64 k ∧ s = .string (whoP xs item day k) ∧ Below w.heap.size w wr) (fun _ i _ => n - (intOf i).toNat)
        case atStart => exact ⟨0, Nat.zero_le _, rfl, rfl, HB1.out⟩
        case round =>
          obtain ⟨k, hk, rfl, rfl, hb⟩ := hrel
          obtain ⟨who, hwho⟩ : ∃ u, u = whoP xs item day k := ⟨_, rfl⟩
          rw [← hwho]
          have HWHO := Lib.hid hwho
          clear hwho
          by_cases hlt : k < n
          · obtain ⟨x, hxk⟩ : ∃ x, xs[k]? = some x := ⟨xs[k]'(by have := HN.out; omega), List.getElem?_eq_getElem _⟩
            obtain ⟨g, o, B, cb, D, cd, rfl, hrow⟩ := (HA.out.below hb).at hxk
            have HX := Lib.hid hxk
            have HO := Lib.hid (goodA_ones HG.out x (List.mem_of_getElem? hxk))
            obtain ⟨-, hsx, hsk⟩ := HW.out x (List.mem_of_getElem? hxk)
            obtain ⟨W3, hW3⟩ : ∃ W3, W3 = wr.alloc (.cells #[.int .i64 x.id, .string x.client, .int .i64 x.sent, .slice B x.items.length cb, .slice D x.kept.length cd, .int .i64 x.back] 41) := ⟨_, rfl⟩
            have B3 : Hid (Below wr.heap.size wr W3) := Lib.hid (by rw [hW3]; exact (Below.refl _ _).alloc (Nat.le_refl _) _)
            have Y3 : Hid (Blk W3 wr.heap.size [.int .i64 x.id, .string x.client, .int .i64 x.sent, .slice B x.items.length cb, .slice D x.kept.length cd, .int .i64 x.back]) := Lib.hid (by rw [hW3]; exact Blk.new _ _ _)
            have HBR := Lib.hid (hb.trans (B3.out.mono hb.size))
            have HXB := Lib.hid (hrow.rB.below B3.out)
            have HXD := Lib.hid (hrow.rD.below B3.out)
            have HW3 := Lib.hid hW3
            have CI := Lib.hid (fun w h => l1Has_any B _ cb x.items item w rfl h hsx)
            have CK := Lib.hid (fun w h => l1Has_any D _ cd x.kept item w rfl h hsk)
            obtain ⟨hg, -, c0, c1, c2, c3, c4, c5, -, -, -, -, -, -⟩ := hrow
            clear hxk hW3
            have HST := Lib.hid (whoP_step (item := item) (day := day) HX.out)
            cases p1 : hasB x.items item with
            | false =>
              rw [p1] at CI
              have HS := Lib.hid (show whoP xs item day (k + 1) = who by rw [HST.out, whoStep, if_neg (by rw [p1]; simp)]; exact HWHO.out.symm)
              go_wp2_with fail
              rw [← HW3.out]
              refine (CI.out _ HXB.out).mono ?_
              rintro e w4 ⟨rfl, rfl⟩
              have y1 := Y3.out.cell 1 _ rfl
              have y2 := Y3.out.cell 2 _ rfl
              have y3 := Y3.out.cell 3 _ rfl
              have y4 := Y3.out.cell 4 _ rfl
              have y5 := Y3.out.cell 5 _ rfl
              have hy := Y3.out.lt
              clear c0 c1 c2 c3 c4 c5
              go_wp2
              go_roundw
              case rel => exact ⟨k + 1, by omega, by go_num, by rw [HS.out], HBR.out⟩
              case measure => simp [intOf]; omega
            | true =>
              rw [p1] at CI
              by_cases q1 : x.sent ≤ day
              · have f1 : decide (x.sent ≤ day) = true := by simpa using q1
                by_cases q2 : x.back = -1
                · have f2 : (x.back == -1) = true := by simp [q2]
                  have f3 : (x.back != -1) = false := by simp [q2]
                  have HS := Lib.hid (show whoP xs item day (k + 1) = x.client by rw [HST.out, whoStep, if_pos ⟨p1, q1⟩, if_pos (by simp only [heldA, f2, Bool.true_or])])
                  clear q2
                  go_wp2_with fail
                  rw [← HW3.out]
                  refine (CI.out _ HXB.out).mono ?_
                  rintro e w4 ⟨rfl, rfl⟩
                  have y1 := Y3.out.cell 1 _ rfl
                  have y2 := Y3.out.cell 2 _ rfl
                  have y3 := Y3.out.cell 3 _ rfl
                  have y4 := Y3.out.cell 4 _ rfl
                  have y5 := Y3.out.cell 5 _ rfl
                  have hy := Y3.out.lt
                  clear c0 c1 c2 c3 c4 c5
                  go_wp2
                  go_roundw
                  case rel => exact ⟨k + 1, by omega, by go_num, by rw [HS.out], HBR.out⟩
                  case measure => simp [intOf]; omega
                · have f2 : (x.back == -1) = false := by simp [q2]
                  have f3 : (x.back != -1) = true := by simp [q2]
                  by_cases q3 : x.back ≤ day
                  · have f4 : decide (x.back ≤ day) = true := by simpa using q3
                    have f5 : decide (day < x.back) = false := by simp; omega
                    cases p2 : hasB x.kept item with
                    | true =>
                      rw [p2] at CK
                      have HS := Lib.hid (show whoP xs item day (k + 1) = x.client by rw [HST.out, whoStep, if_pos ⟨p1, q1⟩, if_pos (by simp only [heldA, p2, Bool.or_true])])
                      go_wp2_with fail
                      rw [← HW3.out]
                      refine (CI.out _ HXB.out).mono ?_
                      rintro e w4 ⟨rfl, rfl⟩
                      have y1 := Y3.out.cell 1 _ rfl
                      have y2 := Y3.out.cell 2 _ rfl
                      have y3 := Y3.out.cell 3 _ rfl
                      have y4 := Y3.out.cell 4 _ rfl
                      have y5 := Y3.out.cell 5 _ rfl
                      have hy := Y3.out.lt
                      clear c0 c1 c2 c3 c4 c5
                      go_wp2_with fail
                      refine (CK.out _ HXD.out).mono ?_
                      rintro e w4 ⟨rfl, rfl⟩
                      go_wp2
                      go_roundw
                      case rel => exact ⟨k + 1, by omega, by go_num, by rw [HS.out], HBR.out⟩
                      case measure => simp [intOf]; omega
                    | false =>
                      rw [p2] at CK
                      have HS := Lib.hid (show whoP xs item day (k + 1) = ⟨#[]⟩ by rw [HST.out, whoStep, if_pos ⟨p1, q1⟩, if_neg (by simp only [heldA, f2, f5, p2, Bool.or_false]; simp)])
                      go_wp2_with fail
                      rw [← HW3.out]
                      refine (CI.out _ HXB.out).mono ?_
                      rintro e w4 ⟨rfl, rfl⟩
                      have y1 := Y3.out.cell 1 _ rfl
                      have y2 := Y3.out.cell 2 _ rfl
                      have y3 := Y3.out.cell 3 _ rfl
                      have y4 := Y3.out.cell 4 _ rfl
                      have y5 := Y3.out.cell 5 _ rfl
                      have hy := Y3.out.lt
                      clear c0 c1 c2 c3 c4 c5
                      go_wp2_with fail
                      refine (CK.out _ HXD.out).mono ?_
                      rintro e w4 ⟨rfl, rfl⟩
                      go_wp2
                      go_roundw
                      case rel => exact ⟨k + 1, by omega, by go_num, by rw [HS.out], HBR.out⟩
                      case measure => simp [intOf]; omega
                  · have f4 : decide (x.back ≤ day) = false := by simpa using q3
                    have f5 : decide (day < x.back) = true := by simp; omega
                    have HS := Lib.hid (show whoP xs item day (k + 1) = x.client by rw [HST.out, whoStep, if_pos ⟨p1, q1⟩, if_pos (by simp only [heldA, f5, Bool.true_or, Bool.or_true])])
                    go_wp2_with fail
                    rw [← HW3.out]
                    refine (CI.out _ HXB.out).mono ?_
                    rintro e w4 ⟨rfl, rfl⟩
                    have y1 := Y3.out.cell 1 _ rfl
                    have y2 := Y3.out.cell 2 _ rfl
                    have y3 := Y3.out.cell 3 _ rfl
                    have y4 := Y3.out.cell 4 _ rfl
                    have y5 := Y3.out.cell 5 _ rfl
                    have hy := Y3.out.lt
                    clear c0 c1 c2 c3 c4 c5
                    go_wp2
                    go_roundw
                    case rel => exact ⟨k + 1, by omega, by go_num, by rw [HS.out], HBR.out⟩
                    case measure => simp [intOf]; omega
              · have f1 : decide (x.sent ≤ day) = false := by simpa using q1
                have HS := Lib.hid (show whoP xs item day (k + 1) = who by rw [HST.out, whoStep, if_neg (fun h => q1 h.2)]; exact HWHO.out.symm)
                go_wp2_with fail
                rw [← HW3.out]
                refine (CI.out _ HXB.out).mono ?_
                rintro e w4 ⟨rfl, rfl⟩
                have y1 := Y3.out.cell 1 _ rfl
                have y2 := Y3.out.cell 2 _ rfl
                have y3 := Y3.out.cell 3 _ rfl
                have y4 := Y3.out.cell 4 _ rfl
                have y5 := Y3.out.cell 5 _ rfl
                have hy := Y3.out.lt
                clear c0 c1 c2 c3 c4 c5
                go_wp2
                go_roundw
                case rel => exact ⟨k + 1, by omega, by go_num, by rw [HS.out], HBR.out⟩
                case measure => simp [intOf]; omega
          · have hkn : k = xs.length := by have := HN.out; omega
            have HE := Lib.hid (show whV xs item day = who by rw [whV, if_pos HT.out, ← hkn, ← HWHO.out])
            have hdk : decide (k < n) = false := by simpa using hlt
            clear hkn
            go_wp2
            go_ret2
            exact ⟨ret_sb (by rw [HV.out, HE.out]) (by rw [HQ.out, HT.out]), hb⟩

set_option maxRecDepth 20000 in
set_option maxHeartbeats 4000000 in
theorem implWhereIs_any (A : Option Addr) (n c : Nat) (xs : List AR) (item day : Int) (w : World) (hn : xs.length = n) (hA : RdA w A xs) (h20 : n ≤ 1048576) (hw : ∀ x ∈ xs, smA x) (hcap : n ≤ c ∧ c ≤ maxLen) :
    Calls Try.prog 10 #[.slice A n c, .int .i64 item, .int .i64 day] w (Ret (.tuple #[.string (whV xs item day), .bool (whB xs item day)]) w) := by
  have C0 := Lib.hid (fun w h => areApprovals_any A n c xs w hn h (by omega) hw hcap)
  have C1 := Lib.hid (fun w => isItem_any item w)
  have C2 := Lib.hid (fun w => isDay_any day w)
  have HA := Lib.hid hA
  have HW := Lib.hid hw
  have HN := Lib.hid hn
  obtain ⟨V, hV⟩ : ∃ V, V = whV xs item day := ⟨_, rfl⟩
  obtain ⟨Q, hQ⟩ : ∃ Q, Q = whB xs item day := ⟨_, rfl⟩
  rw [← hV, ← hQ]
  have HV := Lib.hid hV
  have HQ := Lib.hid hQ
  clear hV hQ hn hA hw hcap
  cases h0 : goodA xs with
  | false =>
    have HF : Hid (whB xs item day = false) := Lib.hid (by simp only [whB, h0, Bool.true_and, Bool.false_and])
    rw [h0] at C0
    clear h0
    go_enter Try.func10, Try.ntmps10
    go_wp2_with fail
    refine (C0.out _ HA.out).mono ?_
    rintro e w1 ⟨rfl, b1⟩
    go_wp2
    go_ret2
    exact ⟨ret_sb (by rw [HV.out, whV, if_neg (by rw [HF.out]; simp)]) (by rw [HQ.out, HF.out]), b1⟩
  | true =>
    rw [h0] at C0
    cases h1 : inR item 1 999 with
    | false =>
      have HF : Hid (whB xs item day = false) := Lib.hid (by simp only [whB, h0, h1, Bool.true_and, Bool.false_and])
      rw [h1] at C1
      clear h0 h1
      go_enter Try.func10, Try.ntmps10
      go_wp2_with fail
      refine (C0.out _ HA.out).mono ?_
      rintro e w1 ⟨rfl, b1⟩
      go_wp2_with fail
      refine (C1.out _).mono ?_
      rintro e w2 ⟨rfl, rfl⟩
      go_wp2
      go_ret2
      exact ⟨ret_sb (by rw [HV.out, whV, if_neg (by rw [HF.out]; simp)]) (by rw [HQ.out, HF.out]), b1⟩
    | true =>
      rw [h1] at C1
      cases h2 : inR day 0 4000 with
      | false =>
        have HF : Hid (whB xs item day = false) := Lib.hid (by simp only [whB, h0, h1, h2, Bool.true_and, Bool.false_and])
        rw [h2] at C2
        clear h0 h1 h2
        go_enter Try.func10, Try.ntmps10
        go_wp2_with fail
        refine (C0.out _ HA.out).mono ?_
        rintro e w1 ⟨rfl, b1⟩
        go_wp2_with fail
        refine (C1.out _).mono ?_
        rintro e w2 ⟨rfl, rfl⟩
        go_wp2_with fail
        refine (C2.out _).mono ?_
        rintro e w2 ⟨rfl, rfl⟩
        go_wp2
        go_ret2
        exact ⟨ret_sb (by rw [HV.out, whV, if_neg (by rw [HF.out]; simp)]) (by rw [HQ.out, HF.out]), b1⟩
      | true =>
        rw [h2] at C2
        have HT : Hid (whB xs item day = true) := Lib.hid (by simp only [whB, h0, h1, h2, Bool.true_and])
        have HG := Lib.hid h0
        obtain ⟨hd0, hd1⟩ := inR_true.1 h2
        clear h0 h1 h2
        go_enter Try.func10, Try.ntmps10
        go_wp2_with fail
        refine (C0.out _ HA.out).mono ?_
        rintro e w1 ⟨rfl, b1⟩
        go_wp2_with fail
        refine (C1.out _).mono ?_
        rintro e w2 ⟨rfl, rfl⟩
        go_wp2_with fail
        refine (C2.out _).mono ?_
        rintro e w2 ⟨rfl, rfl⟩
        have HB1 := Lib.hid b1
        clear b1
        go_wp2_with fail
        go_loopw [8, 26] (fun s i wr => ∃ k : Nat, k ≤ n ∧ i = .int .i64 k ∧ s = .string (whoP xs item day k) ∧ Below w.heap.size w wr) (fun _ i _ => n - (intOf i).toNat)
        case atStart => exact ⟨0, Nat.zero_le _, rfl, rfl, HB1.out⟩
        case round =>
          obtain ⟨k, hk, rfl, rfl, hb⟩ := hrel
          obtain ⟨who, hwho⟩ : ∃ u, u = whoP xs item day k := ⟨_, rfl⟩
          rw [← hwho]
          have HWHO := Lib.hid hwho
          clear hwho
          by_cases hlt : k < n
          · obtain ⟨x, hxk⟩ : ∃ x, xs[k]? = some x := ⟨xs[k]'(by have := HN.out; omega), List.getElem?_eq_getElem _⟩
            obtain ⟨g, o, B, cb, D, cd, rfl, hrow⟩ := (HA.out.below hb).at hxk
            have HX := Lib.hid hxk
            have HO := Lib.hid (goodA_ones HG.out x (List.mem_of_getElem? hxk))
            obtain ⟨-, hsx, hsk⟩ := HW.out x (List.mem_of_getElem? hxk)
            obtain ⟨W3, hW3⟩ : ∃ W3, W3 = wr.alloc (.cells #[.int .i64 x.id, .string x.client, .int .i64 x.sent, .slice B x.items.length cb, .slice D x.kept.length cd, .int .i64 x.back] 41) := ⟨_, rfl⟩
            have B3 : Hid (Below wr.heap.size wr W3) := Lib.hid (by rw [hW3]; exact (Below.refl _ _).alloc (Nat.le_refl _) _)
            have Y3 : Hid (Blk W3 wr.heap.size [.int .i64 x.id, .string x.client, .int .i64 x.sent, .slice B x.items.length cb, .slice D x.kept.length cd, .int .i64 x.back]) := Lib.hid (by rw [hW3]; exact Blk.new _ _ _)
            have HBR := Lib.hid (hb.trans (B3.out.mono hb.size))
            have HXB := Lib.hid (hrow.rB.below B3.out)
            have HXD := Lib.hid (hrow.rD.below B3.out)
            have HW3 := Lib.hid hW3
            have CI := Lib.hid (fun w h => containsInt_any B _ cb x.items item w rfl h hsx)
            have CK := Lib.hid (fun w h => containsInt_any D _ cd x.kept item w rfl h hsk)
            obtain ⟨hg, -, c0, c1, c2, c3, c4, c5, -, -, -, -, -, -⟩ := hrow
            clear hxk hW3
            have HST := Lib.hid (who_impl (item := item) HX.out HO.out hd0 (goodA_pairs HG.out HX.out))
            have CO := Lib.hid (fun w => isOut_any x B cb D cd day w)
            cases p1 : outB x day with
            | false =>
              rw [p1] at CO
              by_cases q1 : x.sent ≤ day
              · have f1 : decide (x.sent ≤ day) = true := by simpa using q1
                cases p3 : hasB x.kept item with
                | true =>
                  rw [p3] at CK
                  have HS := Lib.hid (show whoP xs item day (k + 1) = x.client by rw [HST.out]; simp only [p1, f1, p3]; simp)
                  go_wp2_with fail
                  rw [← HW3.out]
                  have y1 := Y3.out.cell 1 _ rfl
                  have y2 := Y3.out.cell 2 _ rfl
                  have y3 := Y3.out.cell 3 _ rfl
                  have y4 := Y3.out.cell 4 _ rfl
                  have y5 := Y3.out.cell 5 _ rfl
                  have hy := Y3.out.lt
                  clear c0 c1 c2 c3 c4 c5
                  refine (CO.out _).mono ?_
                  rintro e w4 ⟨rfl, b4⟩
                  have Y4 := Lib.hid (Y3.out.below b4 hy)
                  have HB4 := Lib.hid (HBR.out.trans (b4.mono HBR.out.size))
                  have HXB4 := Lib.hid (HXB.out.below b4)
                  have HXD4 := Lib.hid (HXD.out.below b4)
                  have z1 := Y4.out.cell 1 _ rfl
                  have z2 := Y4.out.cell 2 _ rfl
                  have z3 := Y4.out.cell 3 _ rfl
                  have z4 := Y4.out.cell 4 _ rfl
                  have z5 := Y4.out.cell 5 _ rfl
                  have hs4 := b4.size
                  clear b4 y1 y2 y3 y4 y5
                  go_wp2_with fail
                  refine (CK.out _ HXD4.out).mono ?_
                  rintro e w5 ⟨rfl, rfl⟩
                  go_wp2
                  go_roundw
                  case rel => exact ⟨k + 1, by omega, by go_num, by rw [HS.out], HB4.out⟩
                  case measure => simp [intOf]; omega
                | false =>
                  rw [p3] at CK
                  have HS := Lib.hid (show whoP xs item day (k + 1) = who by rw [HST.out]; simp only [p1, f1, p3]; simp; exact HWHO.out.symm)
                  go_wp2_with fail
                  rw [← HW3.out]
                  have y1 := Y3.out.cell 1 _ rfl
                  have y2 := Y3.out.cell 2 _ rfl
                  have y3 := Y3.out.cell 3 _ rfl
                  have y4 := Y3.out.cell 4 _ rfl
                  have y5 := Y3.out.cell 5 _ rfl
                  have hy := Y3.out.lt
                  clear c0 c1 c2 c3 c4 c5
                  refine (CO.out _).mono ?_
                  rintro e w4 ⟨rfl, b4⟩
                  have Y4 := Lib.hid (Y3.out.below b4 hy)
                  have HB4 := Lib.hid (HBR.out.trans (b4.mono HBR.out.size))
                  have HXB4 := Lib.hid (HXB.out.below b4)
                  have HXD4 := Lib.hid (HXD.out.below b4)
                  have z1 := Y4.out.cell 1 _ rfl
                  have z2 := Y4.out.cell 2 _ rfl
                  have z3 := Y4.out.cell 3 _ rfl
                  have z4 := Y4.out.cell 4 _ rfl
                  have z5 := Y4.out.cell 5 _ rfl
                  have hs4 := b4.size
                  clear b4 y1 y2 y3 y4 y5
                  go_wp2_with fail
                  refine (CK.out _ HXD4.out).mono ?_
                  rintro e w5 ⟨rfl, rfl⟩
                  go_wp2
                  go_roundw
                  case rel => exact ⟨k + 1, by omega, by go_num, by rw [HS.out], HB4.out⟩
                  case measure => simp [intOf]; omega
              · have f1 : decide (x.sent ≤ day) = false := by simpa using q1
                have HS := Lib.hid (show whoP xs item day (k + 1) = who by rw [HST.out]; simp only [p1, f1]; simp; exact HWHO.out.symm)
                go_wp2_with fail
                rw [← HW3.out]
                have y1 := Y3.out.cell 1 _ rfl
                have y2 := Y3.out.cell 2 _ rfl
                have y3 := Y3.out.cell 3 _ rfl
                have y4 := Y3.out.cell 4 _ rfl
                have y5 := Y3.out.cell 5 _ rfl
                have hy := Y3.out.lt
                clear c0 c1 c2 c3 c4 c5
                refine (CO.out _).mono ?_
                rintro e w4 ⟨rfl, b4⟩
                have Y4 := Lib.hid (Y3.out.below b4 hy)
                have HB4 := Lib.hid (HBR.out.trans (b4.mono HBR.out.size))
                have HXB4 := Lib.hid (HXB.out.below b4)
                have HXD4 := Lib.hid (HXD.out.below b4)
                have z1 := Y4.out.cell 1 _ rfl
                have z2 := Y4.out.cell 2 _ rfl
                have z3 := Y4.out.cell 3 _ rfl
                have z4 := Y4.out.cell 4 _ rfl
                have z5 := Y4.out.cell 5 _ rfl
                have hs4 := b4.size
                clear b4 y1 y2 y3 y4 y5
                go_wp2
                go_roundw
                case rel => exact ⟨k + 1, by omega, by go_num, by rw [HS.out], HB4.out⟩
                case measure => simp [intOf]; omega
            | true =>
              rw [p1] at CO
              cases p2 : hasB x.items item with
              | true =>
                rw [p2] at CI
                have HS := Lib.hid (show whoP xs item day (k + 1) = x.client by rw [HST.out]; simp only [p1, p2]; simp)
                go_wp2_with fail
                rw [← HW3.out]
                have y1 := Y3.out.cell 1 _ rfl
                have y2 := Y3.out.cell 2 _ rfl
                have y3 := Y3.out.cell 3 _ rfl
                have y4 := Y3.out.cell 4 _ rfl
                have y5 := Y3.out.cell 5 _ rfl
                have hy := Y3.out.lt
                clear c0 c1 c2 c3 c4 c5
                refine (CO.out _).mono ?_
                rintro e w4 ⟨rfl, b4⟩
                have Y4 := Lib.hid (Y3.out.below b4 hy)
                have HB4 := Lib.hid (HBR.out.trans (b4.mono HBR.out.size))
                have HXB4 := Lib.hid (HXB.out.below b4)
                have HXD4 := Lib.hid (HXD.out.below b4)
                have z1 := Y4.out.cell 1 _ rfl
                have z2 := Y4.out.cell 2 _ rfl
                have z3 := Y4.out.cell 3 _ rfl
                have z4 := Y4.out.cell 4 _ rfl
                have z5 := Y4.out.cell 5 _ rfl
                have hs4 := b4.size
                clear b4 y1 y2 y3 y4 y5
                go_wp2_with fail
                refine (CI.out _ HXB4.out).mono ?_
                rintro e w5 ⟨rfl, rfl⟩
                go_wp2
                go_roundw
                case rel => exact ⟨k + 1, by omega, by go_num, by rw [HS.out], HB4.out⟩
                case measure => simp [intOf]; omega
              | false =>
                rw [p2] at CI
                by_cases q1 : x.sent ≤ day
                · have f1 : decide (x.sent ≤ day) = true := by simpa using q1
                  cases p3 : hasB x.kept item with
                  | true =>
                    rw [p3] at CK
                    have HS := Lib.hid (show whoP xs item day (k + 1) = x.client by rw [HST.out]; simp only [p1, p2, f1, p3]; simp)
                    go_wp2_with fail
                    rw [← HW3.out]
                    have y1 := Y3.out.cell 1 _ rfl
                    have y2 := Y3.out.cell 2 _ rfl
                    have y3 := Y3.out.cell 3 _ rfl
                    have y4 := Y3.out.cell 4 _ rfl
                    have y5 := Y3.out.cell 5 _ rfl
                    have hy := Y3.out.lt
                    clear c0 c1 c2 c3 c4 c5
                    refine (CO.out _).mono ?_
                    rintro e w4 ⟨rfl, b4⟩
                    have Y4 := Lib.hid (Y3.out.below b4 hy)
                    have HB4 := Lib.hid (HBR.out.trans (b4.mono HBR.out.size))
                    have HXB4 := Lib.hid (HXB.out.below b4)
                    have HXD4 := Lib.hid (HXD.out.below b4)
                    have z1 := Y4.out.cell 1 _ rfl
                    have z2 := Y4.out.cell 2 _ rfl
                    have z3 := Y4.out.cell 3 _ rfl
                    have z4 := Y4.out.cell 4 _ rfl
                    have z5 := Y4.out.cell 5 _ rfl
                    have hs4 := b4.size
                    clear b4 y1 y2 y3 y4 y5
                    go_wp2_with fail
                    refine (CI.out _ HXB4.out).mono ?_
                    rintro e w5 ⟨rfl, rfl⟩
                    go_wp2_with fail
                    refine (CK.out _ HXD4.out).mono ?_
                    rintro e w5 ⟨rfl, rfl⟩
                    go_wp2
                    go_roundw
                    case rel => exact ⟨k + 1, by omega, by go_num, by rw [HS.out], HB4.out⟩
                    case measure => simp [intOf]; omega
                  | false =>
                    rw [p3] at CK
                    have HS := Lib.hid (show whoP xs item day (k + 1) = who by rw [HST.out]; simp only [p1, p2, f1, p3]; simp; exact HWHO.out.symm)
                    go_wp2_with fail
                    rw [← HW3.out]
                    have y1 := Y3.out.cell 1 _ rfl
                    have y2 := Y3.out.cell 2 _ rfl
                    have y3 := Y3.out.cell 3 _ rfl
                    have y4 := Y3.out.cell 4 _ rfl
                    have y5 := Y3.out.cell 5 _ rfl
                    have hy := Y3.out.lt
                    clear c0 c1 c2 c3 c4 c5
                    refine (CO.out _).mono ?_
                    rintro e w4 ⟨rfl, b4⟩
                    have Y4 := Lib.hid (Y3.out.below b4 hy)
                    have HB4 := Lib.hid (HBR.out.trans (b4.mono HBR.out.size))
                    have HXB4 := Lib.hid (HXB.out.below b4)
                    have HXD4 := Lib.hid (HXD.out.below b4)
                    have z1 := Y4.out.cell 1 _ rfl
                    have z2 := Y4.out.cell 2 _ rfl
                    have z3 := Y4.out.cell 3 _ rfl
                    have z4 := Y4.out.cell 4 _ rfl
                    have z5 := Y4.out.cell 5 _ rfl
                    have hs4 := b4.size
                    clear b4 y1 y2 y3 y4 y5
                    go_wp2_with fail
                    refine (CI.out _ HXB4.out).mono ?_
                    rintro e w5 ⟨rfl, rfl⟩
                    go_wp2_with fail
                    refine (CK.out _ HXD4.out).mono ?_
                    rintro e w5 ⟨rfl, rfl⟩
                    go_wp2
                    go_roundw
                    case rel => exact ⟨k + 1, by omega, by go_num, by rw [HS.out], HB4.out⟩
                    case measure => simp [intOf]; omega
                · have f1 : decide (x.sent ≤ day) = false := by simpa using q1
                  have HS := Lib.hid (show whoP xs item day (k + 1) = who by rw [HST.out]; simp only [p1, p2, f1]; simp; exact HWHO.out.symm)
                  go_wp2_with fail
                  rw [← HW3.out]
                  have y1 := Y3.out.cell 1 _ rfl
                  have y2 := Y3.out.cell 2 _ rfl
                  have y3 := Y3.out.cell 3 _ rfl
                  have y4 := Y3.out.cell 4 _ rfl
                  have y5 := Y3.out.cell 5 _ rfl
                  have hy := Y3.out.lt
                  clear c0 c1 c2 c3 c4 c5
                  refine (CO.out _).mono ?_
                  rintro e w4 ⟨rfl, b4⟩
                  have Y4 := Lib.hid (Y3.out.below b4 hy)
                  have HB4 := Lib.hid (HBR.out.trans (b4.mono HBR.out.size))
                  have HXB4 := Lib.hid (HXB.out.below b4)
                  have HXD4 := Lib.hid (HXD.out.below b4)
                  have z1 := Y4.out.cell 1 _ rfl
                  have z2 := Y4.out.cell 2 _ rfl
                  have z3 := Y4.out.cell 3 _ rfl
                  have z4 := Y4.out.cell 4 _ rfl
                  have z5 := Y4.out.cell 5 _ rfl
                  have hs4 := b4.size
                  clear b4 y1 y2 y3 y4 y5
                  go_wp2_with fail
                  refine (CI.out _ HXB4.out).mono ?_
                  rintro e w5 ⟨rfl, rfl⟩
                  go_wp2
                  go_roundw
                  case rel => exact ⟨k + 1, by omega, by go_num, by rw [HS.out], HB4.out⟩
                  case measure => simp [intOf]; omega
          · have hkn : k = xs.length := by have := HN.out; omega
            have HE := Lib.hid (show whV xs item day = who by rw [whV, if_pos HT.out, ← hkn, ← HWHO.out])
            have hdk : decide (k < n) = false := by simpa using hlt
            clear hkn
            go_wp2
            go_ret2
            exact ⟨ret_sb (by rw [HV.out, HE.out]) (by rw [HQ.out, HT.out]), hb⟩
end Go.Proofs.Ytogjcnfhfpgbfaa
