/- Which insurances are valid, and which lists of insurances: the program's and the reference's tests compute one function. -/
import Derived.Test.YtiafiehglfmjaaaDoorInsu
import Derived.Test.YtiafiehglfmjaaaDoorExt
import Derived.Test.YtiafiehglfmjaaaDoorCmp
import Derived.Deep.Light
import Derived.StillTailTactics
namespace Go.Proofs.YtiafiehglfmjaaaDoor
set_option linter.unusedVariables false
set_option linter.unusedSimpArgs false
open Go.RowKit

theorem isItem_any (a : Int) (w : World) : Calls Tryd.prog 24 #[.int .i64 a] w (RetS (.bool (inR a 1 999)) w) := by
  go_enter Tryd.func24, Tryd.ntmps24
  go_wp2_with (go_at_call 44; refine (inRange_any _ _ _ _).mono ?_; rintro e w' ⟨rfl, rfl⟩)
  go_ret
  exact ⟨rfl, rfl⟩

theorem isDay_any (a : Int) (w : World) : Calls Tryd.prog 31 #[.int .i64 a] w (RetS (.bool (inR a 0 4000)) w) := by
  go_enter Tryd.func31, Tryd.ntmps31
  go_wp2_with (go_at_call 44; refine (inRange_any _ _ _ _).mono ?_; rintro e w' ⟨rfl, rfl⟩)
  go_ret
  exact ⟨rfl, rfl⟩

theorem isWorth_any (a : Int) (w : World) : Calls Tryd.prog 50 #[.int .i64 a] w (RetS (.bool (inR a 1 10000000)) w) := by
  go_enter Tryd.func50, Tryd.ntmps50
  go_wp2_with (go_at_call 44; refine (inRange_any _ _ _ _).mono ?_; rintro e w' ⟨rfl, rfl⟩)
  go_ret
  exact ⟨rfl, rfl⟩

theorem l26Item_any (a : Int) (w : World) : Calls Tryd.prog 29 #[.int .i64 a] w (RetS (.bool (inR a 1 999)) w) := by
  go_enter Tryd.func29, Tryd.ntmps29
  go_wp2_with (go_at_call 47; refine (l1In_any _ _ _ _).mono ?_; rintro e w' ⟨rfl, rfl⟩)
  go_ret
  exact ⟨rfl, rfl⟩

theorem l2Day_any (a : Int) (w : World) : Calls Tryd.prog 35 #[.int .i64 a] w (RetS (.bool (inR a 0 4000)) w) := by
  go_enter Tryd.func35, Tryd.ntmps35
  go_wp2_with (go_at_call 47; refine (l1In_any _ _ _ _).mono ?_; rintro e w' ⟨rfl, rfl⟩)
  go_ret
  exact ⟨rfl, rfl⟩

theorem l26Cents_any (a : Int) (w : World) : Calls Tryd.prog 52 #[.int .i64 a] w (RetS (.bool (inR a 1 10000000)) w) := by
  go_enter Tryd.func52, Tryd.ntmps52
  go_wp2_with (go_at_call 47; refine (l1In_any _ _ _ _).mono ?_; rintro e w' ⟨rfl, rfl⟩)
  go_ret
  exact ⟨rfl, rfl⟩

/-- An insurance: a is its Item, b its From, c its Until, d its Cents, e its Rate. -/
def insB (x : R5) : Bool := decide ((1 ≤ x.a ∧ x.a ≤ 999) ∧ (0 ≤ x.b ∧ x.b ≤ 4000) ∧ (0 ≤ x.c ∧ x.c ≤ 4000) ∧ x.b ≤ x.c ∧ (1 ≤ x.d ∧ x.d ≤ 10000000) ∧ (1 ≤ x.e ∧ x.e ≤ 500))
def insBefore (x y : R5) : Bool := decide (x.a < y.a ∨ x.a = y.a ∧ x.b < y.b)

set_option maxHeartbeats 1000000 in
theorem isInsured_any (x : R5) (w : World) :
    Calls Tryd.prog 37 #[.agg #[.int .i64 x.a, .int .i64 x.b, .int .i64 x.c, .int .i64 x.d, .int .i64 x.e]] w (Ret (.bool (insB x)) w) := by
  go_enter Tryd.func37, Tryd.ntmps37
  go_wp2_with (first
    | (go_at_call 44; refine (inRange_any _ _ _ _).mono ?_; rintro e w' ⟨rfl, rfl⟩)
    | (go_at_call 24; refine (isItem_any _ _).mono ?_; rintro e w' ⟨rfl, rfl⟩)
    | (go_at_call 31; refine (isDay_any _ _).mono ?_; rintro e w' ⟨rfl, rfl⟩)
    | (go_at_call 50; refine (isWorth_any _ _).mono ?_; rintro e w' ⟨rfl, rfl⟩))
  all_goals
    go_ret
    refine ⟨ret_bool ?_, (Below.refl _ _).alloc (Nat.le_refl _) _⟩
    go_light
    grind [insB, inR]

set_option maxHeartbeats 1000000 in
theorem l26One_any (x : R5) (w : World) :
    Calls Tryd.prog 39 #[.agg #[.int .i64 x.a, .int .i64 x.b, .int .i64 x.c, .int .i64 x.d, .int .i64 x.e]] w (Ret (.bool (insB x)) w) := by
  go_enter Tryd.func39, Tryd.ntmps39
  go_wp2_with (first
    | (go_at_call 47; refine (l1In_any _ _ _ _).mono ?_; rintro e w' ⟨rfl, rfl⟩)
    | (go_at_call 29; refine (l26Item_any _ _).mono ?_; rintro e w' ⟨rfl, rfl⟩)
    | (go_at_call 35; refine (l2Day_any _ _).mono ?_; rintro e w' ⟨rfl, rfl⟩)
    | (go_at_call 52; refine (l26Cents_any _ _).mono ?_; rintro e w' ⟨rfl, rfl⟩))
  all_goals
    go_ret
    refine ⟨ret_bool ?_, (Below.refl _ _).alloc (Nat.le_refl _) _⟩
    go_light
    grind [insB, inR]

set_option maxHeartbeats 1000000 in
theorem l26Before_any (x y : R5) (w : World) :
    Calls Tryd.prog 46 #[.agg #[.int .i64 x.a, .int .i64 x.b, .int .i64 x.c, .int .i64 x.d, .int .i64 x.e], .agg #[.int .i64 y.a, .int .i64 y.b, .int .i64 y.c, .int .i64 y.d, .int .i64 y.e]] w (Ret (.bool (insBefore x y)) w) := by
  go_enter Tryd.func46, Tryd.ntmps46
  go_wp2
  all_goals
    go_ret
    refine ⟨ret_bool ?_, ((Below.refl _ _).alloc (Nat.le_refl _) _).alloc (by simp) _⟩
    go_light
    grind [insBefore]

/-- What compareInsured returns. -/
def insCmp (x y : R5) : Int := orV [cmpV x.a y.a, cmpV x.b y.b]
theorem insCmp_before (x y : R5) : decide (0 ≤ insCmp x y) = !insBefore x y := by
  rw [Bool.eq_iff_iff]; simp only [insCmp, orV, cmpV, insBefore, decide_eq_true_eq, Bool.not_eq_true', decide_eq_false_iff_not]
  grind

set_option maxHeartbeats 1000000 in
theorem compareInsured_any (x y : R5) (w : World) :
    Calls Tryd.prog 43 #[.agg #[.int .i64 x.a, .int .i64 x.b, .int .i64 x.c, .int .i64 x.d, .int .i64 x.e], .agg #[.int .i64 y.a, .int .i64 y.b, .int .i64 y.c, .int .i64 y.d, .int .i64 y.e]] w (Ret (.int .i64 (insCmp x y)) w) := by
  have C1 := Lib.hid (fun w => compareInt_any x.a y.a w)
  have C2 := Lib.hid (fun w => compareInt_any x.b y.b w)
  obtain ⟨p, hp⟩ : ∃ p, p = cmpV x.a y.a := ⟨_, rfl⟩
  obtain ⟨q, hq⟩ : ∃ q, q = cmpV x.b y.b := ⟨_, rfl⟩
  have e : insCmp x y = orV [p, q] := by rw [insCmp, hp, hq]
  rw [← hp] at C1
  rw [← hq] at C2
  rw [e]
  clear hp hq e
  go_enter Tryd.func43, Tryd.ntmps43
  go_wp2_with fail
  refine wp_region_stay_tail 10 (by kernel_rfl) (by kernel_rfl) ?_
  simp only [List.take_succ_cons, List.take_zero, List.drop_succ_cons, List.drop_zero]
  still_step
  still_step
  still_step
  still_step
  still_call ((C1.out _).mono (fun _ _ h => ⟨h.1, h.2.symm⟩))
  still_step
  still_step
  still_step
  still_step
  still_call ((C2.out _).mono (fun _ _ h => ⟨h.1, h.2.symm⟩))
  refine wpStill_nil ?_
  go_wp2_with fail
  refine (orInt_any _ 2 2 [p, q] _ rfl ?_ (by omega)).mono ?_
  · exact (rd_new #[.int .i64 p, .int .i64 q] 3 (by simp)).drew
  · rintro e w' ⟨rfl, rfl⟩
    go_wp2
    go_ret
    exact ⟨rfl, ((((Below.refl _ _).alloc (Nat.le_refl _) _).alloc (by simp) _).alloc (by simp; omega) _).drew⟩

/-- The list is a list of insurances. -/
def insL (xs : List R5) : Bool := allG insB insBefore xs && decide (xs.length ≤ 12)
theorem insL_no {xs : List R5} {k : Nat} (hk : k < xs.length) (h : okG insB insBefore xs k = false) : insL xs = false := by simp [insL, allG_no hk h]
theorem insL_end {xs : List R5} {k n : Nat} (h : GRel insB insBefore xs k) (hn : xs.length = n) (hk : n ≤ k) : decide ((n : Int) ≤ 12) = insL xs := by
  rw [insL, h.all (by omega), hn, Bool.true_and]; exact decide_eq_decide.2 (by omega)

set_option maxHeartbeats 1000000 in
theorem areInsured_any (A : Option Addr) (n c : Nat) (xs : List R5) (w : World) (hn : xs.length = n) (hA : Rd w A (cells5 xs)) (h20 : n ≤ 1048576) :
    Calls Tryd.prog 23 #[.slice A n c] w (Ret (.bool (insL xs)) w) := by
  go_enter Tryd.func23, Tryd.ntmps23
  go_wp2_with fail
  go_loopw [7, 2, 3, 4] (fun i r _ _ wr => ∃ (k : Nat), k ≤ n ∧ i = .int .i64 k ∧ r = .bool false ∧ GRel insB insBefore xs k ∧ Below w.heap.size w wr) (fun i _ _ _ _ => n - (intOf i).toNat)
  case atStart => exact ⟨0, by omega, rfl, rfl, .zero, Below.refl _ _⟩
  case round =>
    obtain ⟨k, hk, rfl, rfl, hrel, hb⟩ := hrel
    have HR := Lib.hid hrel
    clear hrel
    by_cases hlt : k < n
    · obtain ⟨x, hxk⟩ : ∃ x, xs[k]? = some x := ⟨xs[k], List.getElem?_eq_getElem (by omega)⟩
      obtain ⟨g, o, hAe, hg, c0, c1, c2, c3, c4⟩ := (hA.below hb).at5 hxk
      subst hAe
      have hg1 : g < wr.heap.size + 1 := by omega
      have HX := Lib.hid hxk
      clear hxk
      have C1 := Lib.hid (fun w => isInsured_any x w)
      have hbw : ∀ (o : Obj) (w1 : World), Below (wr.heap.size + 1) (wr.alloc o) w1 → Below w.heap.size wr w1 := fun o w1 hb1 => ((Below.refl _ _).alloc hb.size o).trans (hb1.mono (by have := hb.size; omega))
      have HBW := Lib.hid hbw
      clear hbw
      cases hv : insB x with
      | false =>
        rw [hv] at C1
        have HV := Lib.hid (okG_no (bef := insBefore) HX.out hv)
        clear hv
        go_wp2_with fail
        refine wp_region_lat (wr.heap.size + 1) (by kernel_rfl) (by kernel_rfl) ?_
        have LC := fun (u : Lat (wr.heap.size + 1) (wr.alloc (Obj.cells #[Value.int IntKind.i64 x.a, Value.int IntKind.i64 x.b, Value.int IntKind.i64 x.c, Value.int IntKind.i64 x.d, Value.int IntKind.i64 x.e] 33))) => u.cell
        repeat (go_big_quiet_step ((go_at_call 37; exact lat_call _ (by simp) (C1.out _))))
        refine wpQuiet_nil ?_
        intro w1 hb1
        clear LC
        go_wp2
        go_ret
        exact ⟨ret_bool (insL_no (k := k) (by omega) HV.out).symm, hb.trans (HBW.out _ _ hb1)⟩
      | true =>
        rw [hv] at C1
        have HV := Lib.hid hv
        clear hv
        by_cases h0 : k ≤ 0
        · have hd : decide (0 < k) = false := by simp; omega
          have HN := Lib.hid (okG_first (bef := insBefore) HX.out HV.out (by omega))
          go_wp2_with fail
          refine wp_region_lat (wr.heap.size + 1) (by kernel_rfl) (by kernel_rfl) ?_
          have LC := fun (u : Lat (wr.heap.size + 1) (wr.alloc (Obj.cells #[Value.int IntKind.i64 x.a, Value.int IntKind.i64 x.b, Value.int IntKind.i64 x.c, Value.int IntKind.i64 x.d, Value.int IntKind.i64 x.e] 33))) => u.cell
          repeat (go_big_quiet_step ((go_at_call 37; exact lat_call _ (by simp) (C1.out _))))
          refine wpQuiet_nil ?_
          intro w1 hb1
          clear LC
          go_wp2
          go_roundw
          case rel => exact ⟨k + 1, by omega, by go_num, rfl, HR.out.step HN.out, hb.trans (HBW.out _ _ hb1)⟩
          case measure => simp [intOf]; omega
        · obtain ⟨y, hyk⟩ : ∃ y, xs[k - 1]? = some y := ⟨xs[k - 1], List.getElem?_eq_getElem (by omega)⟩
          obtain ⟨g', o', hA', _, d0, d1, d2, d3, d4⟩ := (hA.below hb).at5 hyk
          injection hA' with hA'
          injection hA' with hA1 hA2
          subst hA1; subst hA2
          have C2 := Lib.hid (fun w => compareInsured_any y x w)
          obtain ⟨q, hq⟩ : ∃ q, q = insCmp y x := ⟨_, rfl⟩
          have HN := Lib.hid ((okG_next (bef := insBefore) HX.out HV.out (by omega) hyk).trans (show insBefore y x = !decide (0 ≤ q) by rw [hq, insCmp_before, Bool.not_not]))
          rw [← hq] at C2
          have hp : 0 < k := by omega
          clear hyk h0 hq
          go_wp2_with fail
          refine wp_region_lat (wr.heap.size + 1) (by kernel_rfl) (by kernel_rfl) ?_
          have LC := fun (u : Lat (wr.heap.size + 1) (wr.alloc (Obj.cells #[Value.int IntKind.i64 x.a, Value.int IntKind.i64 x.b, Value.int IntKind.i64 x.c, Value.int IntKind.i64 x.d, Value.int IntKind.i64 x.e] 33))) => u.cell
          repeat (go_big_quiet_step (first | (go_at_call 37; exact lat_call _ (by simp) (C1.out _)) | (go_at_call 43; exact lat_call _ (by simp) (C2.out _))))
          refine wpQuiet_nil ?_
          intro w1 hb1
          clear LC
          go_wp2
          · have hle : 0 ≤ q := by assumption
            go_ret
            exact ⟨ret_bool (insL_no (k := k) (by omega) (by rw [HN.out]; simp [hle])).symm, hb.trans (HBW.out _ _ hb1)⟩
          · have hle : q < 0 := by assumption
            have HN' := Lib.hid (show okG insB insBefore xs k = true by rw [HN.out]; simp; omega)
            go_roundw
            case rel => exact ⟨k + 1, by omega, by go_num, rfl, HR.out.step HN'.out, hb.trans (HBW.out _ _ hb1)⟩
            case measure => simp [intOf]; omega
    · go_wp2
      go_ret
      exact ⟨ret_bool (insL_end HR.out hn (by omega)), hb⟩

set_option maxHeartbeats 1000000 in
theorem l26Good_any (A : Option Addr) (n c : Nat) (xs : List R5) (w : World) (hn : xs.length = n) (hA : Rd w A (cells5 xs)) (h20 : n ≤ 1048576) :
    Calls Tryd.prog 28 #[.slice A n c] w (Ret (.bool (insL xs)) w) := by
  go_enter Tryd.func28, Tryd.ntmps28
  go_wp2_with fail
  go_loopw [3, 2] (fun i r wr => ∃ (k : Nat), k ≤ n ∧ i = .int .i64 k ∧ r = .bool false ∧ GRel insB insBefore xs k ∧ Below w.heap.size w wr) (fun i _ _ => n - (intOf i).toNat)
  case atStart => exact ⟨0, by omega, rfl, rfl, .zero, Below.refl _ _⟩
  case round =>
    obtain ⟨k, hk, rfl, rfl, hrel, hb⟩ := hrel
    have HR := Lib.hid hrel
    clear hrel
    by_cases hlt : k < n
    · obtain ⟨x, hxk⟩ : ∃ x, xs[k]? = some x := ⟨xs[k], List.getElem?_eq_getElem (by omega)⟩
      obtain ⟨g, o, hAe, hg, c0, c1, c2, c3, c4⟩ := (hA.below hb).at5 hxk
      subst hAe
      have HX := Lib.hid hxk
      clear hxk
      have C1 := Lib.hid (fun w => l26One_any x w)
      cases hv : insB x with
      | false =>
        rw [hv] at C1
        have HV := Lib.hid (okG_no (bef := insBefore) HX.out hv)
        clear hv
        go_wp2_with fail
        refine wp_region_lat wr.heap.size (by kernel_rfl) (by kernel_rfl) ?_
        have LC := fun (u : Lat wr.heap.size wr) => u.cell
        repeat (go_big_quiet_step ((go_at_call 39; exact lat_call _ (Nat.le_refl _) (C1.out _))))
        refine wpQuiet_nil ?_
        intro w1 hb1
        clear LC
        go_wp2
        go_ret
        exact ⟨ret_bool (insL_no (k := k) (by omega) HV.out).symm, hb.trans (hb1.mono hb.size)⟩
      | true =>
        rw [hv] at C1
        have HV := Lib.hid hv
        clear hv
        by_cases h0 : k ≤ 0
        · have hd : decide (0 < k) = false := by simp; omega
          have HN := Lib.hid (okG_first (bef := insBefore) HX.out HV.out (by omega))
          go_wp2_with fail
          refine wp_region_lat wr.heap.size (by kernel_rfl) (by kernel_rfl) ?_
          have LC := fun (u : Lat wr.heap.size wr) => u.cell
          repeat (go_big_quiet_step ((go_at_call 39; exact lat_call _ (Nat.le_refl _) (C1.out _))))
          refine wpQuiet_nil ?_
          intro w1 hb1
          clear LC
          go_wp2
          go_roundw
          case rel => exact ⟨k + 1, by omega, by go_num, rfl, HR.out.step HN.out, hb.trans (hb1.mono hb.size)⟩
          case measure => simp [intOf]; omega
        · obtain ⟨y, hyk⟩ : ∃ y, xs[k - 1]? = some y := ⟨xs[k - 1], List.getElem?_eq_getElem (by omega)⟩
          obtain ⟨g', o', hA', _, d0, d1, d2, d3, d4⟩ := (hA.below hb).at5 hyk
          injection hA' with hA'
          injection hA' with hA1 hA2
          subst hA1; subst hA2
          have C2 := Lib.hid (fun w => l26Before_any y x w)
          obtain ⟨q, hq⟩ : ∃ q, q = insBefore y x := ⟨_, rfl⟩
          have HN := Lib.hid ((okG_next (bef := insBefore) HX.out HV.out (by omega) hyk).trans hq.symm)
          rw [← hq] at C2
          have hp : 0 < k := by omega
          clear hyk h0 hq
          cases q with
          | false =>
            go_wp2_with fail
            refine wp_region_lat wr.heap.size (by kernel_rfl) (by kernel_rfl) ?_
            have LC := fun (u : Lat wr.heap.size wr) => u.cell
            repeat (go_big_quiet_step (first | (go_at_call 39; exact lat_call _ (Nat.le_refl _) (C1.out _)) | (go_at_call 46; exact lat_call _ (Nat.le_refl _) (C2.out _))))
            refine wpQuiet_nil ?_
            intro w1 hb1
            clear LC
            go_wp2
            go_ret
            exact ⟨ret_bool (insL_no (k := k) (by omega) HN.out).symm, hb.trans (hb1.mono hb.size)⟩
          | true =>
            go_wp2_with fail
            refine wp_region_lat wr.heap.size (by kernel_rfl) (by kernel_rfl) ?_
            have LC := fun (u : Lat wr.heap.size wr) => u.cell
            repeat (go_big_quiet_step (first | (go_at_call 39; exact lat_call _ (Nat.le_refl _) (C1.out _)) | (go_at_call 46; exact lat_call _ (Nat.le_refl _) (C2.out _))))
            refine wpQuiet_nil ?_
            intro w1 hb1
            clear LC
            go_wp2
            go_roundw
            case rel => exact ⟨k + 1, by omega, by go_num, rfl, HR.out.step HN.out, hb.trans (hb1.mono hb.size)⟩
            case measure => simp [intOf]; omega
    · go_wp2
      go_ret
      exact ⟨ret_bool (insL_end HR.out hn (by omega)), hb⟩

end Go.Proofs.YtiafiehglfmjaaaDoor
