/- Approvals: whether a list is valid: the reference. -/
import Derived.Test.YtehohkdipfphmaaDoorAppI
namespace Go.Proofs.YtehohkdipfphmaaDoor
set_option linter.unusedVariables false
set_option linter.unusedSimpArgs false
open Go.RowKit

/-- The item z of b may not be sent behind a. -/
def badZ (a b : AR) (z : Int) : Bool := hasB a.items z && (a.back == -1 || (decide (b.sent < a.back) || hasB a.kept z))
def freeB (a b : AR) : Bool := b.items.all (fun z => !badZ a b z)
theorem freeB_no {a b : AR} {k : Nat} {z : Int} (h : b.items[k]? = some z) (hz : badZ a b z = true) : freeB a b = false := by
  unfold freeB; rw [List.all_eq_false]; exact ⟨z, List.mem_of_getElem? h, by simp [hz]⟩
theorem freeB_yes {a b : AR} (h : ∀ (j : Nat) (z : Int), j < b.items.length → b.items[j]? = some z → badZ a b z = false) : freeB a b = true := by
  unfold freeB; rw [List.all_eq_true]
  intro z hz
  obtain ⟨j, hj, rfl⟩ := List.getElem_of_mem hz
  simp [h j _ hj (List.getElem?_eq_getElem hj)]
theorem freeB_at {a b : AR} {z : Int} (h : freeB a b = true) (hz : hasB b.items z = true) : badZ a b z = false := by
  unfold freeB at h; rw [List.all_eq_true] at h
  simpa using h z (hasB_true.1 hz)
def befA (y x : AR) : Bool := decide (y.id < x.id) && decide (y.sent ≤ x.sent)
noncomputable def okAt (xs : List AR) (i : Nat) : Bool := match xs[i]? with
  | some x => oneA x && ((i == 0 || match xs[i - 1]? with | some y => befA y x | none => false) && (xs.take i).all (fun y => freeB y x))
  | none => true
/-- Whether a list are approvals. -/
noncomputable def goodA (xs : List AR) : Bool := (List.range xs.length).all (okAt xs) && decide (xs.length ≤ 12)
theorem goodA_no {xs : List AR} {k : Nat} (hk : k < xs.length) (h : okAt xs k = false) : goodA xs = false := by
  have : (List.range xs.length).all (okAt xs) = false := by rw [List.all_eq_false]; exact ⟨k, by simpa using hk, by simp [h]⟩
  simp [goodA, this]
theorem goodA_long {xs : List AR} (h : 12 < xs.length) : goodA xs = false := by simp [goodA]; intros; omega
theorem goodA_end {xs : List AR} (h : ∀ j, j < xs.length → okAt xs j = true) : goodA xs = decide (xs.length ≤ 12) := by
  have : (List.range xs.length).all (okAt xs) = true := by rw [List.all_eq_true]; intro j hj; exact h j (by simpa using hj)
  simp [goodA, this]
theorem goodA_yes {xs : List AR} (h : goodA xs = true) : (∀ j, okAt xs j = true) ∧ xs.length ≤ 12 := by
  simp only [goodA, Bool.and_eq_true, List.all_eq_true, decide_eq_true_eq] at h
  refine ⟨fun j => ?_, h.2⟩
  rcases Nat.lt_or_ge j xs.length with h' | h'
  · exact h.1 j (by simpa using h')
  · simp [okAt, List.getElem?_eq_none h']
theorem okAt_one {xs : List AR} {k : Nat} {x : AR} (h : okAt xs k = true) (hx : xs[k]? = some x) : oneA x = true := by
  simp only [okAt, hx, Bool.and_eq_true] at h; exact h.1
theorem okAt_free {xs : List AR} {k j : Nat} {x y : AR} (h : okAt xs k = true) (hx : xs[k]? = some x) (hy : xs[j]? = some y) (hj : j < k) : freeB y x = true := by
  simp only [okAt, hx, Bool.and_eq_true, List.all_eq_true] at h
  exact h.2.2 y (List.mem_of_getElem? (i := j) (by rw [List.getElem?_take_of_lt hj]; exact hy))
theorem okAt_no1 {xs : List AR} {k : Nat} {x : AR} (hx : xs[k]? = some x) (h : oneA x = false) : okAt xs k = false := by simp [okAt, hx, h]
theorem okAt_no2 {xs : List AR} {k : Nat} {x y : AR} (hx : xs[k]? = some x) (hy : xs[k - 1]? = some y) (hk : k ≠ 0) (h : befA y x = false) : okAt xs k = false := by simp [okAt, hx, hy, hk, h]
theorem okAt_no3 {xs : List AR} {k j : Nat} {x y : AR} (hx : xs[k]? = some x) (hy : xs[j]? = some y) (hj : j < k) (h : freeB y x = false) : okAt xs k = false := by
  cases e : okAt xs k with
  | false => rfl
  | true => rw [okAt_free e hx hy hj] at h; cases h
theorem okAt_yes {xs : List AR} {k : Nat} {x : AR} (hx : xs[k]? = some x) (h1 : oneA x = true) (h2 : k = 0 ∨ ∃ y, xs[k - 1]? = some y ∧ befA y x = true) (h3 : ∀ (j : Nat) (y : AR), j < k → xs[j]? = some y → freeB y x = true) : okAt xs k = true := by
  have e3 : (xs.take k).all (fun y => freeB y x) = true := by
    rw [List.all_eq_true]
    intro y hy
    obtain ⟨j, hj, rfl⟩ := List.getElem_of_mem hy
    rw [List.length_take] at hj
    exact h3 j _ (by omega) (by rw [List.getElem_take]; exact List.getElem?_eq_getElem _)
  rcases h2 with h2 | ⟨y, hy, h2⟩
  · subst h2; simp [okAt, hx, h1]
  · simp [okAt, hx, h1, hy, h2, e3]
theorem befA_no1 {y x : AR} (h : x.id ≤ y.id) : befA y x = false := by simp [befA]; omega
theorem befA_no2 {y x : AR} (h : x.sent < y.sent) : befA y x = false := by simp [befA]; omega
theorem befA_yes {y x : AR} (h : ¬ x.id ≤ y.id) (h' : ¬ x.sent < y.sent) : befA y x = true := by simp [befA]; omega

set_option maxRecDepth 20000 in
set_option maxHeartbeats 4000000 in
theorem l28Free_any (a b : AR) (B : Option Addr) (c : Nat) (D : Option Addr) (d : Nat) (F : Option Addr) (p : Nat) (G : Option Addr) (q : Nat) (w : World) (hB : Rd w B (cells1 a.items)) (hD : Rd w D (cells1 a.kept)) (hF : Rd w F (cells1 b.items)) (ha : smA a) (hb : smA b) :
    Calls Tryd.prog 57 #[.agg #[.int .i64 a.id, .string a.client, .int .i64 a.sent, .slice B a.items.length c, .slice D a.kept.length d, .int .i64 a.back], .agg #[.int .i64 b.id, .string b.client, .int .i64 b.sent, .slice F b.items.length p, .slice G b.kept.length q, .int .i64 b.back]] w (Ret (.bool (freeB a b)) w) := by
  obtain ⟨-, ha1, ha2⟩ := ha
  obtain ⟨-, hb1, -⟩ := hb
  obtain ⟨W2, hW2⟩ : ∃ W2, W2 = (w.alloc (.cells #[.int .i64 a.id, .string a.client, .int .i64 a.sent, .slice B a.items.length c, .slice D a.kept.length d, .int .i64 a.back] 34)).alloc (.cells #[.int .i64 b.id, .string b.client, .int .i64 b.sent, .slice F b.items.length p, .slice G b.kept.length q, .int .i64 b.back] 34) := ⟨_, rfl⟩
  have HW : Hid (Below w.heap.size w W2) := Lib.hid (by rw [hW2]; exact ((Below.refl _ _).alloc (Nat.le_refl _) _).alloc (by simp) _)
  have XA : Hid (Blk W2 w.heap.size [.int .i64 a.id, .string a.client, .int .i64 a.sent, .slice B a.items.length c, .slice D a.kept.length d, .int .i64 a.back]) := Lib.hid (by rw [hW2]; exact (Blk.new w [.int .i64 a.id, .string a.client, .int .i64 a.sent, .slice B a.items.length c, .slice D a.kept.length d, .int .i64 a.back] 34).alloc _)
  have XB : Hid (Blk W2 (w.heap.size + 1) [.int .i64 b.id, .string b.client, .int .i64 b.sent, .slice F b.items.length p, .slice G b.kept.length q, .int .i64 b.back]) := Lib.hid (by rw [hW2]; have h := Blk.new (w.alloc (.cells #[.int .i64 a.id, .string a.client, .int .i64 a.sent, .slice B a.items.length c, .slice D a.kept.length d, .int .i64 a.back] 34)) [.int .i64 b.id, .string b.client, .int .i64 b.sent, .slice F b.items.length p, .slice G b.kept.length q, .int .i64 b.back] 34; rw [World.size_alloc] at h; exact h)
  have HB := Lib.hid (hB.below HW.out)
  have HD := Lib.hid (hD.below HW.out)
  have HF := Lib.hid (hF.below HW.out)
  have HWW := Lib.hid hW2
  clear hB hD hF hW2
  go_enter Tryd.func57, Tryd.ntmps57
  go_wp2_with fail
  go_loopw [5] (fun i wr => ∃ k : Nat, k ≤ b.items.length ∧ i = .int .i64 k ∧ (∀ (j : Nat) (z : Int), j < k → b.items[j]? = some z → badZ a b z = false) ∧ Below W2.heap.size W2 wr) (fun i _ => b.items.length - (intOf i).toNat)
  case atStart => exact ⟨0, Nat.zero_le _, rfl, fun j z hj => by omega, by rw [HWW.out]; exact Below.refl _ _⟩
  case round =>
    obtain ⟨k, hk, rfl, hrel, hb⟩ := hrel
    have HR := Lib.hid hrel
    have YA := Lib.hid (XA.out.below hb XA.out.lt)
    have YB := Lib.hid (XB.out.below hb XB.out.lt)
    have HWR := Lib.hid (HW.out.trans (hb.mono HW.out.size))
    have a3 := YA.out.cell 3 _ rfl
    have a4 := YA.out.cell 4 _ rfl
    have a5 := YA.out.cell 5 _ rfl
    have b2 := YB.out.cell 2 _ rfl
    have b3 := YB.out.cell 3 _ rfl
    have hla := YA.out.lt
    have hlb := YB.out.lt
    clear hrel
    by_cases hlt : k < b.items.length
    · obtain ⟨z, hzk⟩ : ∃ z, b.items[k]? = some z := ⟨b.items[k], List.getElem?_eq_getElem hlt⟩
      obtain ⟨gi, oi, hFe, hgi, z0⟩ := (HF.out.below hb).at1 hzk
      subst hFe
      have HZ := Lib.hid hzk
      have HBR := Lib.hid (HB.out.below hb)
      have HDR := Lib.hid (HD.out.below hb)
      have C1 := Lib.hid (fun w h => l1Has_any B _ c a.items z w rfl h ha1)
      have C2 := Lib.hid (fun w h => l1Has_any D _ d a.kept z w rfl h ha2)
      clear hzk
      cases p1 : hasB a.items z with
      | false =>
        rw [p1] at C1
        have HV := Lib.hid (show badZ a b z = false by simp only [badZ, p1, Bool.false_and])
        go_wp2_with fail
        refine wp_region_lat wr.heap.size (by kernel_rfl) (by kernel_rfl) ?_
        have LC := fun (u : Lat wr.heap.size wr) => u.cell
        repeat (go_big_quiet_step ((first | (go_at_call 35; (with_reducible exact lat_same _ (C1.out _ (HBR.out.below (Lat.below _))))) | (go_at_call 35; (with_reducible exact lat_same _ (C2.out _ (HDR.out.below (Lat.below _))))))))
        refine wpQuiet_nil ?_
        intro w4 hw4
        clear LC
        go_wp2
        go_roundw
        case rel =>
          refine ⟨k + 1, by omega, by go_num, fun j y hj hy => ?_, hb.trans (hw4.mono hb.size)⟩
          rcases Nat.lt_or_ge j k with h' | h'
          · exact HR.out j y h' hy
          · have : j = k := by omega
            subst this; rw [HZ.out] at hy; injection hy with hy; subst hy; exact HV.out
        case measure => simp [intOf]; omega
      | true =>
        rw [p1] at C1
        by_cases q1 : a.back = -1
        · have e1 : (a.back == -1) = true := by simp [q1]
          have HV := Lib.hid (freeB_no HZ.out (show badZ a b z = true by simp only [badZ, p1, e1, Bool.true_and, Bool.true_or]))
          go_wp2_with fail
          refine wp_region_lat wr.heap.size (by kernel_rfl) (by kernel_rfl) ?_
          have LC := fun (u : Lat wr.heap.size wr) => u.cell
          repeat (go_big_quiet_step ((first | (go_at_call 35; (with_reducible exact lat_same _ (C1.out _ (HBR.out.below (Lat.below _))))) | (go_at_call 35; (with_reducible exact lat_same _ (C2.out _ (HDR.out.below (Lat.below _))))))))
          refine wpQuiet_nil ?_
          intro w4 hw4
          clear LC
          go_wp2
          go_ret
          exact ⟨ret_bool HV.out.symm, HWR.out.trans (hw4.mono HWR.out.size)⟩
        · have e1 : (a.back == -1) = false := by simp [q1]
          by_cases q2 : b.sent < a.back
          · have e2 : decide (b.sent < a.back) = true := by simpa using q2
            have HV := Lib.hid (freeB_no HZ.out (show badZ a b z = true by simp only [badZ, p1, e1, e2, Bool.true_and, Bool.true_or, Bool.or_true]))
            go_wp2_with fail
            refine wp_region_lat wr.heap.size (by kernel_rfl) (by kernel_rfl) ?_
            have LC := fun (u : Lat wr.heap.size wr) => u.cell
            repeat (go_big_quiet_step ((first | (go_at_call 35; (with_reducible exact lat_same _ (C1.out _ (HBR.out.below (Lat.below _))))) | (go_at_call 35; (with_reducible exact lat_same _ (C2.out _ (HDR.out.below (Lat.below _))))))))
            refine wpQuiet_nil ?_
            intro w4 hw4
            clear LC
            go_wp2
            go_ret
            exact ⟨ret_bool HV.out.symm, HWR.out.trans (hw4.mono HWR.out.size)⟩
          · have e2 : decide (b.sent < a.back) = false := by simpa using q2
            cases p2 : hasB a.kept z with
            | false =>
              rw [p2] at C2
              have HV := Lib.hid (show badZ a b z = false by simp only [badZ, p1, e1, e2, p2, Bool.true_and, Bool.or_false])
              go_wp2_with fail
              refine wp_region_lat wr.heap.size (by kernel_rfl) (by kernel_rfl) ?_
              have LC := fun (u : Lat wr.heap.size wr) => u.cell
              repeat (go_big_quiet_step ((first | (go_at_call 35; (with_reducible exact lat_same _ (C1.out _ (HBR.out.below (Lat.below _))))) | (go_at_call 35; (with_reducible exact lat_same _ (C2.out _ (HDR.out.below (Lat.below _))))))))
              refine wpQuiet_nil ?_
              intro w4 hw4
              clear LC
              go_wp2
              go_roundw
              case rel =>
                refine ⟨k + 1, by omega, by go_num, fun j y hj hy => ?_, hb.trans (hw4.mono hb.size)⟩
                rcases Nat.lt_or_ge j k with h' | h'
                · exact HR.out j y h' hy
                · have : j = k := by omega
                  subst this; rw [HZ.out] at hy; injection hy with hy; subst hy; exact HV.out
              case measure => simp [intOf]; omega
            | true =>
              rw [p2] at C2
              have HV := Lib.hid (freeB_no HZ.out (show badZ a b z = true by simp only [badZ, p1, e1, e2, p2, Bool.true_and, Bool.or_true]))
              go_wp2_with fail
              refine wp_region_lat wr.heap.size (by kernel_rfl) (by kernel_rfl) ?_
              have LC := fun (u : Lat wr.heap.size wr) => u.cell
              repeat (go_big_quiet_step ((first | (go_at_call 35; (with_reducible exact lat_same _ (C1.out _ (HBR.out.below (Lat.below _))))) | (go_at_call 35; (with_reducible exact lat_same _ (C2.out _ (HDR.out.below (Lat.below _))))))))
              refine wpQuiet_nil ?_
              intro w4 hw4
              clear LC
              go_wp2
              go_ret
              exact ⟨ret_bool HV.out.symm, HWR.out.trans (hw4.mono HWR.out.size)⟩
    · have hdk : decide (k < b.items.length) = false := by simpa using hlt
      have HV := Lib.hid (freeB_yes (a := a) (b := b) fun j z hj hz => HR.out j z (by omega) hz)
      go_wp2
      go_ret
      exact ⟨ret_bool HV.out.symm, HWR.out⟩

set_option maxRecDepth 20000 in
set_option maxHeartbeats 8000000 in
theorem l28Good_any (A : Option Addr) (n c : Nat) (xs : List AR) (w : World) (hn : xs.length = n) (hA : RdA w A xs) (h20 : n ≤ 1048577) (hw : ∀ x ∈ xs, smA x) :
    Calls Tryd.prog 28 #[.slice A n c] w (Ret (.bool (goodA xs)) w) := by
  have HN := Lib.hid hn
  have HA := Lib.hid hA
  have HW := Lib.hid hw
  clear hn hA hw
  go_enter Tryd.func28, Tryd.ntmps28
  go_wp2_with fail
  go_loopw [3, 4] (fun i _ wr => ∃ (k : Nat), k ≤ n ∧ i = .int .i64 k ∧ (∀ j, j < k → okAt xs j = true) ∧ Below w.heap.size w wr) (fun i _ _ => n - (intOf i).toNat)
  case atStart => exact ⟨0, by omega, rfl, fun j hj => by omega, Below.refl _ _⟩
  case round =>
    obtain ⟨k, hk, rfl, hrel, hb⟩ := hrel
    have HR := Lib.hid hrel
    clear hrel
    by_cases hlt : k < n
    · by_cases hk12 : k ≤ 12
      · obtain ⟨x, hxk⟩ : ∃ x, xs[k]? = some x := ⟨xs[k]'(by have := HN.out; omega), List.getElem?_eq_getElem _⟩
        obtain ⟨g, o, B, cb, D, cd, rfl, hrow⟩ := (HA.out.below hb).at hxk
        have HX := Lib.hid hxk
        have HRX := Lib.hid hrow
        have C1 := Lib.hid (fun w h h' => l28One_any x B cb D cd w h h' (HW.out x (List.mem_of_getElem? hxk)))
        have hkl : k < xs.length := by have := HN.out; omega
        have hd12 : decide ((k : Int) ≤ 12) = true := by simp; omega
        have HKL := Lib.hid hkl
        obtain ⟨hg, -, c0, c1, c2, c3, c4, c5, -, -, -, -, rB, rD⟩ := hrow
        have HRB := Lib.hid rB
        have HRD := Lib.hid rD
        clear hxk rB rD hkl
        cases hv : oneA x with
        | false =>
          rw [hv] at C1
          have HV := Lib.hid (goodA_no HKL.out (okAt_no1 HX.out hv))
          clear hv
          go_wp2_with fail
          refine wp_region_lat wr.heap.size (by kernel_rfl) (by kernel_rfl) ?_
          have LC := fun (u : Lat wr.heap.size wr) => u.cell
          repeat (go_big_quiet_step ((go_at_call 49; (with_reducible exact lat_call _ (Nat.le_refl _) (C1.out _ (HRB.out.below (Lat.below _)) (HRD.out.below (Lat.below _)))))))
          refine wpQuiet_nil ?_
          intro w1 hw1
          clear LC
          go_wp2
          go_ret
          exact ⟨ret_bool HV.out.symm, hb.trans (hw1.mono hb.size)⟩
        | true =>
          rw [hv] at C1
          have HO := Lib.hid hv
          clear hv
          by_cases h0 : k ≤ 0
          · have hd : decide (0 < k) = false := by simp; omega
            have HBF : Hid (k = 0 ∨ ∃ y, xs[k - 1]? = some y ∧ befA y x = true) := Lib.hid (.inl (by omega))
            go_wp2_with fail
            refine wp_region_lat wr.heap.size (by kernel_rfl) (by kernel_rfl) ?_
            have LC := fun (u : Lat wr.heap.size wr) => u.cell
            repeat (go_big_quiet_step ((go_at_call 49; (with_reducible exact lat_call _ (Nat.le_refl _) (C1.out _ (HRB.out.below (Lat.below _)) (HRD.out.below (Lat.below _)))))))
            refine wpQuiet_nil ?_
            intro w1 hw1
            clear LC
            have HB1 := Lib.hid (hb.trans (hw1.mono hb.size))
            clear hw1 c0 c1 c2 c3 c4 c5
            go_wp2_with fail
            go_loopw [4] (fun i wr => ∃ (j : Nat), j ≤ k ∧ i = .int .i64 j ∧ (∀ (q : Nat) (y : AR), q < j → xs[q]? = some y → freeB y x = true) ∧ Below w.heap.size w wr) (fun i _ => k - (intOf i).toNat)
            case atStart => exact ⟨0, by omega, rfl, fun q y hq => by omega, HB1.out⟩
            case round =>
              obtain ⟨j, hj, rfl, hrel, hb⟩ := hrel
              have HF := Lib.hid hrel
              clear hrel
              by_cases hjl : j < k
              · obtain ⟨y, hyj⟩ : ∃ y, xs[j]? = some y := ⟨xs[j]'(by have := HKL.out; omega), List.getElem?_eq_getElem _⟩
                obtain ⟨g1, o1, B1, cb1, D1, cd1, hA1, hrow1⟩ := (HA.out.below hb).at hyj
                obtain ⟨g2, o2, B2, cb2, D2, cd2, hA2, hrow2⟩ := (HA.out.below hb).at HX.out
                injection hA1 with hA1
                injection hA1 with hA11 hA12
                subst hA11; subst hA12
                injection hA2 with hA2
                injection hA2 with hA21 hA22
                subst hA21; subst hA22
                have HY := Lib.hid hyj
                have C2 := Lib.hid (fun w h h' h'' => l28Free_any y x B1 cb1 D1 cd1 B2 cb2 D2 cd2 w h h' h'' (HW.out y (List.mem_of_getElem? hyj)) (HW.out x (List.mem_of_getElem? HX.out)))
                obtain ⟨hg1, -, c0, c1, c2, c3, c4, c5, -, -, -, -, rB, rD⟩ := hrow1
                obtain ⟨hg2, -, d0, d1, d2, d3, d4, d5, -, -, -, -, sB, sD⟩ := hrow2
                have HB1 := Lib.hid rB
                have HD1 := Lib.hid rD
                have HB2 := Lib.hid sB
                have hj1 : (j : Int) < (n : Int) := by omega
                have hj0 : (0 : Int) ≤ (j : Int) := by omega
                clear hyj rB rD sB sD
                cases p1 : freeB y x with
                | false =>
                  rw [p1] at C2
                  have HV2 := Lib.hid (goodA_no HKL.out (okAt_no3 HX.out HY.out hjl p1))
                  clear p1
                  go_wp2_with fail
                  refine wp_region_lat wr.heap.size (by kernel_rfl) (by kernel_rfl) ?_
                  have LC := fun (u : Lat wr.heap.size wr) => u.cell
                  repeat (go_big_quiet_step ((go_at_call 57; (with_reducible exact lat_call _ (Nat.le_refl _) (C2.out _ (HB1.out.below (Lat.below _)) (HD1.out.below (Lat.below _)) (HB2.out.below (Lat.below _)))))))
                  refine wpQuiet_nil ?_
                  intro w1 hw1
                  clear LC
                  go_wp2
                  go_ret
                  exact ⟨ret_bool HV2.out.symm, hb.trans (hw1.mono hb.size)⟩
                | true =>
                  rw [p1] at C2
                  have P1 := Lib.hid p1
                  clear p1
                  go_wp2_with fail
                  refine wp_region_lat wr.heap.size (by kernel_rfl) (by kernel_rfl) ?_
                  have LC := fun (u : Lat wr.heap.size wr) => u.cell
                  repeat (go_big_quiet_step ((go_at_call 57; (with_reducible exact lat_call _ (Nat.le_refl _) (C2.out _ (HB1.out.below (Lat.below _)) (HD1.out.below (Lat.below _)) (HB2.out.below (Lat.below _)))))))
                  refine wpQuiet_nil ?_
                  intro w1 hw1
                  clear LC
                  go_wp2
                  go_roundw
                  case rel =>
                    refine ⟨j + 1, by omega, by go_num, fun q y' hq hy' => ?_, hb.trans (hw1.mono hb.size)⟩
                    rcases Nat.lt_or_ge q j with h' | h'
                    · exact HF.out q y' h' hy'
                    · have : q = j := by omega
                      subst this; rw [HY.out] at hy'; injection hy' with hy'; subst hy'; exact P1.out
                  case measure => simp [intOf]; omega
              · have hdj : decide (j < k) = false := by simpa using hjl
                have HOK := Lib.hid (okAt_yes HX.out HO.out HBF.out (fun q y hq hy => HF.out q y (by omega) hy))
                go_wp2
                go_roundw
                case rel =>
                  refine ⟨k + 1, by omega, by go_num, fun q hq => ?_, hb⟩
                  rcases Nat.lt_or_ge q k with h' | h'
                  · exact HR.out q h'
                  · have : q = k := by omega
                    subst this; exact HOK.out
                case measure => simp [intOf]; omega
          · obtain ⟨y, hyk⟩ : ∃ y, xs[k - 1]? = some y := ⟨xs[k - 1]'(by have := HKL.out; omega), List.getElem?_eq_getElem _⟩
            obtain ⟨g', o', B', cb', D', cd', hA', hrow'⟩ := (HA.out.below hb).at hyk
            injection hA' with hA'
            injection hA' with hA1 hA2
            subst hA1; subst hA2
            obtain ⟨hg', -, e0, -, e2, -, -, -, -, -, -, -, -, -⟩ := hrow'
            have hp : 0 < k := by omega
            have HY := Lib.hid hyk
            have hk0 : k ≠ 0 := by omega
            clear hyk h0
            by_cases hq1 : x.id ≤ y.id
            · have f1 : decide (x.id ≤ y.id) = true := by simpa using hq1
              have HV := Lib.hid (goodA_no HKL.out (okAt_no2 HX.out HY.out hk0 (befA_no1 hq1)))
              go_wp2_with fail
              refine wp_region_lat wr.heap.size (by kernel_rfl) (by kernel_rfl) ?_
              have LC := fun (u : Lat wr.heap.size wr) => u.cell
              repeat (go_big_quiet_step ((go_at_call 49; (with_reducible exact lat_call _ (Nat.le_refl _) (C1.out _ (HRB.out.below (Lat.below _)) (HRD.out.below (Lat.below _)))))))
              refine wpQuiet_nil ?_
              intro w1 hw1
              clear LC
              go_wp2
              go_ret
              exact ⟨ret_bool HV.out.symm, hb.trans (hw1.mono hb.size)⟩
            · have f1 : decide (x.id ≤ y.id) = false := by simpa using hq1
              by_cases hq2 : x.sent < y.sent
              · have f2 : decide (x.sent < y.sent) = true := by simpa using hq2
                have HV := Lib.hid (goodA_no HKL.out (okAt_no2 HX.out HY.out hk0 (befA_no2 hq2)))
                go_wp2_with fail
                refine wp_region_lat wr.heap.size (by kernel_rfl) (by kernel_rfl) ?_
                have LC := fun (u : Lat wr.heap.size wr) => u.cell
                repeat (go_big_quiet_step ((go_at_call 49; (with_reducible exact lat_call _ (Nat.le_refl _) (C1.out _ (HRB.out.below (Lat.below _)) (HRD.out.below (Lat.below _)))))))
                refine wpQuiet_nil ?_
                intro w1 hw1
                clear LC
                go_wp2
                go_ret
                exact ⟨ret_bool HV.out.symm, hb.trans (hw1.mono hb.size)⟩
              · have f2 : decide (x.sent < y.sent) = false := by simpa using hq2
                have HBF : Hid (k = 0 ∨ ∃ y, xs[k - 1]? = some y ∧ befA y x = true) := Lib.hid (.inr ⟨y, HY.out, befA_yes hq1 hq2⟩)
                go_wp2_with fail
                refine wp_region_lat wr.heap.size (by kernel_rfl) (by kernel_rfl) ?_
                have LC := fun (u : Lat wr.heap.size wr) => u.cell
                repeat (go_big_quiet_step ((go_at_call 49; (with_reducible exact lat_call _ (Nat.le_refl _) (C1.out _ (HRB.out.below (Lat.below _)) (HRD.out.below (Lat.below _)))))))
                refine wpQuiet_nil ?_
                intro w1 hw1
                clear LC
                have HB1 := Lib.hid (hb.trans (hw1.mono hb.size))
                clear hw1 c0 c1 c2 c3 c4 c5
                go_wp2_with fail
                go_loopw [4] (fun i wr => ∃ (j : Nat), j ≤ k ∧ i = .int .i64 j ∧ (∀ (q : Nat) (y : AR), q < j → xs[q]? = some y → freeB y x = true) ∧ Below w.heap.size w wr) (fun i _ => k - (intOf i).toNat)
                case atStart => exact ⟨0, by omega, rfl, fun q y hq => by omega, HB1.out⟩
                case round =>
                  obtain ⟨j, hj, rfl, hrel, hb⟩ := hrel
                  have HF := Lib.hid hrel
                  clear hrel
                  by_cases hjl : j < k
                  · obtain ⟨y, hyj⟩ : ∃ y, xs[j]? = some y := ⟨xs[j]'(by have := HKL.out; omega), List.getElem?_eq_getElem _⟩
                    obtain ⟨g1, o1, B1, cb1, D1, cd1, hA1, hrow1⟩ := (HA.out.below hb).at hyj
                    obtain ⟨g2, o2, B2, cb2, D2, cd2, hA2, hrow2⟩ := (HA.out.below hb).at HX.out
                    injection hA1 with hA1
                    injection hA1 with hA11 hA12
                    subst hA11; subst hA12
                    injection hA2 with hA2
                    injection hA2 with hA21 hA22
                    subst hA21; subst hA22
                    have HY := Lib.hid hyj
                    have C2 := Lib.hid (fun w h h' h'' => l28Free_any y x B1 cb1 D1 cd1 B2 cb2 D2 cd2 w h h' h'' (HW.out y (List.mem_of_getElem? hyj)) (HW.out x (List.mem_of_getElem? HX.out)))
                    obtain ⟨hg1, -, c0, c1, c2, c3, c4, c5, -, -, -, -, rB, rD⟩ := hrow1
                    obtain ⟨hg2, -, d0, d1, d2, d3, d4, d5, -, -, -, -, sB, sD⟩ := hrow2
                    have HB1 := Lib.hid rB
                    have HD1 := Lib.hid rD
                    have HB2 := Lib.hid sB
                    have hj1 : (j : Int) < (n : Int) := by omega
                    have hj0 : (0 : Int) ≤ (j : Int) := by omega
                    clear hyj rB rD sB sD
                    cases p1 : freeB y x with
                    | false =>
                      rw [p1] at C2
                      have HV2 := Lib.hid (goodA_no HKL.out (okAt_no3 HX.out HY.out hjl p1))
                      clear p1
                      go_wp2_with fail
                      refine wp_region_lat wr.heap.size (by kernel_rfl) (by kernel_rfl) ?_
                      have LC := fun (u : Lat wr.heap.size wr) => u.cell
                      repeat (go_big_quiet_step ((go_at_call 57; (with_reducible exact lat_call _ (Nat.le_refl _) (C2.out _ (HB1.out.below (Lat.below _)) (HD1.out.below (Lat.below _)) (HB2.out.below (Lat.below _)))))))
                      refine wpQuiet_nil ?_
                      intro w1 hw1
                      clear LC
                      go_wp2
                      go_ret
                      exact ⟨ret_bool HV2.out.symm, hb.trans (hw1.mono hb.size)⟩
                    | true =>
                      rw [p1] at C2
                      have P1 := Lib.hid p1
                      clear p1
                      go_wp2_with fail
                      refine wp_region_lat wr.heap.size (by kernel_rfl) (by kernel_rfl) ?_
                      have LC := fun (u : Lat wr.heap.size wr) => u.cell
                      repeat (go_big_quiet_step ((go_at_call 57; (with_reducible exact lat_call _ (Nat.le_refl _) (C2.out _ (HB1.out.below (Lat.below _)) (HD1.out.below (Lat.below _)) (HB2.out.below (Lat.below _)))))))
                      refine wpQuiet_nil ?_
                      intro w1 hw1
                      clear LC
                      go_wp2
                      go_roundw
                      case rel =>
                        refine ⟨j + 1, by omega, by go_num, fun q y' hq hy' => ?_, hb.trans (hw1.mono hb.size)⟩
                        rcases Nat.lt_or_ge q j with h' | h'
                        · exact HF.out q y' h' hy'
                        · have : q = j := by omega
                          subst this; rw [HY.out] at hy'; injection hy' with hy'; subst hy'; exact P1.out
                      case measure => simp [intOf]; omega
                  · have hdj : decide (j < k) = false := by simpa using hjl
                    have HOK := Lib.hid (okAt_yes HX.out HO.out HBF.out (fun q y hq hy => HF.out q y (by omega) hy))
                    go_wp2
                    go_roundw
                    case rel =>
                      refine ⟨k + 1, by omega, by go_num, fun q hq => ?_, hb⟩
                      rcases Nat.lt_or_ge q k with h' | h'
                      · exact HR.out q h'
                      · have : q = k := by omega
                        subst this; exact HOK.out
                    case measure => simp [intOf]; omega
      · go_wp2
        go_ret
        exact ⟨ret_bool (by rw [goodA_long (by have := HN.out; omega)]; simp; omega), hb⟩
    · go_wp2
      go_ret
      exact ⟨ret_bool (by rw [goodA_end fun j hj => HR.out j (by have := HN.out; omega), HN.out]; exact decide_eq_decide.2 (by omega)), hb⟩
end Go.Proofs.YtehohkdipfphmaaDoor
