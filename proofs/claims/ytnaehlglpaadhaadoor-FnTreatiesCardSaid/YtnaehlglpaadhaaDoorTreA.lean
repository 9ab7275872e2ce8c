/- Which treaties are valid, and which lists of treaties: the program's and the reference's tests compute one function. -/
import Derived.Test.YtnaehlglpaadhaaDoorTrea
import Derived.Test.YtnaehlglpaadhaaDoorExt
import Derived.Test.YtnaehlglpaadhaaDoorCmp
import Derived.Deep.Light
import Derived.StillTailTactics
namespace Go.Proofs.YtnaehlglpaadhaaDoor
set_option linter.unusedVariables false
set_option linter.unusedSimpArgs false
open Go.RowKit

theorem isPost_any (a : Int) (w : World) : Calls Tryd.prog 31 #[.int .i64 a] w (RetS (.bool (inR a 0 8)) w) := by
  go_enter Tryd.func31, Tryd.ntmps31
  go_wp2_with (go_at_call 46; refine (inRange_any _ _ _ _).mono ?_; rintro e w' ⟨rfl, rfl⟩)
  go_ret
  exact ⟨rfl, rfl⟩

theorem isDay_any (a : Int) (w : World) : Calls Tryd.prog 32 #[.int .i64 a] w (RetS (.bool (inR a 0 4000)) w) := by
  go_enter Tryd.func32, Tryd.ntmps32
  go_wp2_with (go_at_call 46; refine (inRange_any _ _ _ _).mono ?_; rintro e w' ⟨rfl, rfl⟩)
  go_ret
  exact ⟨rfl, rfl⟩

theorem l25Post_any (a : Int) (w : World) : Calls Tryd.prog 35 #[.int .i64 a] w (RetS (.bool (inR a 0 8)) w) := by
  go_enter Tryd.func35, Tryd.ntmps35
  go_wp2_with (go_at_call 48; refine (l1In_any _ _ _ _).mono ?_; rintro e w' ⟨rfl, rfl⟩)
  go_ret
  exact ⟨rfl, rfl⟩

theorem l2Day_any (a : Int) (w : World) : Calls Tryd.prog 36 #[.int .i64 a] w (RetS (.bool (inR a 0 4000)) w) := by
  go_enter Tryd.func36, Tryd.ntmps36
  go_wp2_with (go_at_call 48; refine (l1In_any _ _ _ _).mono ?_; rintro e w' ⟨rfl, rfl⟩)
  go_ret
  exact ⟨rfl, rfl⟩

/-- A treaty: a is its A, b its B, c its From, d its Until, e its Share. -/
def trB (x : R5) : Bool := decide ((0 ≤ x.a ∧ x.a ≤ 8) ∧ (0 ≤ x.b ∧ x.b ≤ 8) ∧ x.a < x.b ∧ (0 ≤ x.c ∧ x.c ≤ 4000) ∧ (0 ≤ x.d ∧ x.d ≤ 4000) ∧ x.c ≤ x.d ∧ (1 ≤ x.e ∧ x.e ≤ 99))
def trLess (x y : R5) : Bool := decide (x.a < y.a ∨ x.a = y.a ∧ (x.b < y.b ∨ x.b = y.b ∧ x.c < y.c))
/-- Before another one, and, between the same posts, at an end before it begins. -/
def trBef (x y : R5) : Bool := trLess x y && !(decide (x.a = y.a) && (decide (x.b = y.b) && decide (y.c ≤ x.d)))

set_option maxHeartbeats 1000000 in
theorem isTreaty_any (x : R5) (w : World) :
    Calls Tryd.prog 50 #[.agg #[.int .i64 x.a, .int .i64 x.b, .int .i64 x.c, .int .i64 x.d, .int .i64 x.e]] w (Ret (.bool (trB x)) w) := by
  go_enter Tryd.func50, Tryd.ntmps50
  go_wp2_with (first
    | (go_at_call 46; refine (inRange_any _ _ _ _).mono ?_; rintro e w' ⟨rfl, rfl⟩)
    | (go_at_call 31; refine (isPost_any _ _).mono ?_; rintro e w' ⟨rfl, rfl⟩)
    | (go_at_call 32; refine (isDay_any _ _).mono ?_; rintro e w' ⟨rfl, rfl⟩))
  all_goals
    go_ret
    refine ⟨ret_bool ?_, (Below.refl _ _).alloc (Nat.le_refl _) _⟩
    go_light
    grind [trB, inR]

set_option maxHeartbeats 1000000 in
theorem l25One_any (x : R5) (w : World) :
    Calls Tryd.prog 54 #[.agg #[.int .i64 x.a, .int .i64 x.b, .int .i64 x.c, .int .i64 x.d, .int .i64 x.e]] w (Ret (.bool (trB x)) w) := by
  cases hp : inR x.b 0 8 with
  | false =>
    have e : trB x = false := by simp only [trB, inR] at *; grind
    have C1 := Lib.hid (fun w => l25Post_any x.b w)
    rw [hp] at C1
    rw [e]
    clear hp e
    go_enter Tryd.func54, Tryd.ntmps54
    go_wp2_with fail
    refine (C1.out _).mono ?_
    rintro e w' ⟨rfl, rfl⟩
    go_wp2
    go_ret
    exact ⟨rfl, (Below.refl _ _).alloc (Nat.le_refl _) _⟩
  | true =>
    obtain ⟨b1, b2⟩ := inR_true.1 hp
    have C1 := Lib.hid (fun w => l25Post_any x.b w)
    rw [hp] at C1
    clear hp
    go_enter Tryd.func54, Tryd.ntmps54
    go_wp2_with fail
    refine (C1.out _).mono ?_
    rintro e w' ⟨rfl, rfl⟩
    go_wp2_with (first
      | (go_at_call 48; refine (l1In_any _ _ _ _).mono ?_; rintro e w' ⟨rfl, rfl⟩)
      | (go_at_call 36; refine (l2Day_any _ _).mono ?_; rintro e w' ⟨rfl, rfl⟩))
    all_goals
      go_ret
      refine ⟨ret_bool ?_, (Below.refl _ _).alloc (Nat.le_refl _) _⟩
      go_light
      grind [trB, inR]

def trKey (x : R5) : Int := (10 * x.a + x.b) * 10000 + x.c
theorem trB_bd {x : R5} (h : trB x = true) : (0 ≤ x.a ∧ x.a ≤ 8) ∧ (0 ≤ x.b ∧ x.b ≤ 8) ∧ x.a < x.b ∧ (0 ≤ x.c ∧ x.c ≤ 4000) ∧ (0 ≤ x.d ∧ x.d ≤ 4000) ∧ x.c ≤ x.d ∧ (1 ≤ x.e ∧ x.e ≤ 99) := by
  simpa only [trB, decide_eq_true_eq] using h
theorem trKey_less {x y : R5} (hx : trB x = true) (hy : trB y = true) : decide (trKey x < trKey y) = trLess x y := by
  have := trB_bd hx; have := trB_bd hy
  unfold trKey trLess
  exact decide_eq_decide.2 (by omega)

theorem l25Key_any (x : R5) (w : World) (hx : trB x = true) :
    Calls Tryd.prog 55 #[.agg #[.int .i64 x.a, .int .i64 x.b, .int .i64 x.c, .int .i64 x.d, .int .i64 x.e]] w (Ret (.int .i64 (trKey x)) w) := by
  obtain ⟨⟨a1, a2⟩, ⟨a3, a4⟩, a5, ⟨a6, a7⟩, -⟩ := trB_bd hx
  go_enter Tryd.func55, Tryd.ntmps55
  go_wp2
  go_ret
  exact ⟨ret_int rfl, (Below.refl _ _).alloc (Nat.le_refl _) _⟩

/-- What compareTreaties returns. -/
def trCmp (x y : R5) : Int := orV [cmpV x.a y.a, cmpV x.b y.b, cmpV x.c y.c]
theorem trCmp_less (x y : R5) : decide (0 ≤ trCmp x y) = !trLess x y := by
  rw [Bool.eq_iff_iff]; simp only [trCmp, orV, cmpV, trLess, decide_eq_true_eq, Bool.not_eq_true', decide_eq_false_iff_not]
  grind

set_option maxHeartbeats 1000000 in
set_option maxRecDepth 20000 in
theorem compareTreaties_any (x y : R5) (w : World) :
    Calls Tryd.prog 52 #[.agg #[.int .i64 x.a, .int .i64 x.b, .int .i64 x.c, .int .i64 x.d, .int .i64 x.e], .agg #[.int .i64 y.a, .int .i64 y.b, .int .i64 y.c, .int .i64 y.d, .int .i64 y.e]] w (Ret (.int .i64 (trCmp x y)) w) := by
  have C1 := Lib.hid (fun w => compareInt_any x.a y.a w)
  have C2 := Lib.hid (fun w => compareInt_any x.b y.b w)
  have C3 := Lib.hid (fun w => compareInt_any x.c y.c w)
  obtain ⟨p, hp⟩ : ∃ p, p = cmpV x.a y.a := ⟨_, rfl⟩
  obtain ⟨q, hq⟩ : ∃ q, q = cmpV x.b y.b := ⟨_, rfl⟩
  obtain ⟨r, hr⟩ : ∃ r, r = cmpV x.c y.c := ⟨_, rfl⟩
  have e : trCmp x y = orV [p, q, r] := by rw [trCmp, hp, hq, hr]
  rw [← hp] at C1
  rw [← hq] at C2
  rw [← hr] at C3
  rw [e]
  clear hp hq hr e
  go_enter Tryd.func52, Tryd.ntmps52
  go_wp2_with fail
  refine wp_region_stay_tail 15 (by kernel_rfl) (by kernel_rfl) ?_
  simp only [List.take_succ_cons, List.take_zero, List.drop_succ_cons, List.drop_zero]
  still_step
  still_step
  still_step
  still_step
  still_call ((C1.out _).mono (fun _ _ h => ⟨h.1, h.2.symm⟩))
  still_step
  still_step
  still_step
  still_step
  still_call ((C2.out _).mono (fun _ _ h => ⟨h.1, h.2.symm⟩))
  still_step
  still_step
  still_step
  still_step
  still_call ((C3.out _).mono (fun _ _ h => ⟨h.1, h.2.symm⟩))
  refine wpStill_nil ?_
  go_wp2_with fail
  refine (orInt_any _ 3 3 [p, q, r] _ rfl ?_ (by omega)).mono ?_
  · exact (rd_new #[.int .i64 p, .int .i64 q, .int .i64 r] 3 (by simp)).drew
  · rintro e w' ⟨rfl, rfl⟩
    go_wp2
    go_ret
    exact ⟨rfl, ((((Below.refl _ _).alloc (Nat.le_refl _) _).alloc (by simp) _).alloc (by simp; omega) _).drew⟩

/-- The list is a list of treaties. -/
def trL (xs : List R5) : Bool := allG trB trBef xs && decide (xs.length ≤ 20)
theorem trL_no {xs : List R5} {k : Nat} (hk : k < xs.length) (h : okG trB trBef xs k = false) : trL xs = false := by simp [trL, allG_no hk h]
theorem trL_end {xs : List R5} {k n : Nat} (h : GRel trB trBef xs k) (hn : xs.length = n) (hk : n ≤ k) : decide ((n : Int) ≤ 20) = trL xs := by
  rw [trL, h.all (by omega), hn, Bool.true_and]; exact decide_eq_decide.2 (by omega)
theorem trL_long {xs : List R5} {n : Nat} (hn : xs.length = n) (hk : 20 < n) : trL xs = false := by
  simp [trL]; intro _; omega

theorem okT_next {xs : List R5} {k : Nat} {x y : R5} (hx : xs[k]? = some x) (hv : trB x = true) (hk : 0 < k) (hy : xs[k - 1]? = some y) : okG trB trBef xs k = (trLess y x && !(decide (y.a = x.a) && (decide (y.b = x.b) && decide (x.c ≤ y.d)))) := okG_next hx hv (by omega) hy

set_option maxHeartbeats 2000000 in
theorem areTreaties_any (A : Option Addr) (n c : Nat) (xs : List R5) (w : World) (hn : xs.length = n) (hA : Rd w A (cells5 xs)) (h20 : n ≤ 1048576) :
    Calls Tryd.prog 30 #[.slice A n c] w (Ret (.bool (trL xs)) w) := by
  go_enter Tryd.func30, Tryd.ntmps30
  go_wp2_with fail
  go_loopw [7, 2, 3, 4] (fun i r _ _ wr => ∃ (k : Nat), k ≤ n ∧ i = .int .i64 k ∧ r = .bool false ∧ GRel trB trBef xs k ∧ Below w.heap.size w wr) (fun i _ _ _ _ => n - (intOf i).toNat)
  case atStart => exact ⟨0, by omega, rfl, rfl, .zero, Below.refl _ _⟩
  case round =>
    obtain ⟨k, hk, rfl, rfl, hrel, hb⟩ := hrel
    have HR := Lib.hid hrel
    clear hrel
    by_cases hlt : k < n
    · obtain ⟨x, hxk⟩ : ∃ x, xs[k]? = some x := ⟨xs[k], List.getElem?_eq_getElem (by omega)⟩
      obtain ⟨g, o, hAe, hg, c0, c1, c2, c3, c4⟩ := (hA.below hb).at5 hxk
      subst hAe
      have HX := Lib.hid hxk
      clear hxk
      have C1 := Lib.hid (fun w => isTreaty_any x w)
      cases hv : trB x with
      | false =>
        rw [hv] at C1
        have HV := Lib.hid (okG_no (bef := trBef) HX.out hv)
        clear hv
        go_wp2_with fail
        refine (C1.out _).mono ?_
        rintro e w1 ⟨rfl, b1⟩
        have hB1 : Below w.heap.size w w1 := (hb.alloc hb.size _).trans (b1.mono (by have := hb.size; simp; omega))
        go_wp2
        go_ret
        exact ⟨ret_bool (trL_no (k := k) (by omega) HV.out).symm, hB1⟩
      | true =>
        rw [hv] at C1
        have HV := Lib.hid hv
        clear hv
        go_wp2_with fail
        refine (C1.out _).mono ?_
        rintro e w1 ⟨rfl, b1⟩
        have hB1 : Below w.heap.size w w1 := (hb.alloc hb.size _).trans (b1.mono (by have := hb.size; simp; omega))
        have hw1 : wr.heap.size < w1.heap.size := by have := b1.size; simp at this; omega
        have e0 := (b1.cell (p := ⟨wr.heap.size, 0, none⟩) (by simp)).trans (World.cell?_alloc_at _ _ _ _ rfl)
        have e1 := (b1.cell (p := ⟨wr.heap.size, 1, none⟩) (by simp)).trans (World.cell?_alloc_at _ _ _ _ rfl)
        have e2 := (b1.cell (p := ⟨wr.heap.size, 2, none⟩) (by simp)).trans (World.cell?_alloc_at _ _ _ _ rfl)
        have e3 := (b1.cell (p := ⟨wr.heap.size, 3, none⟩) (by simp)).trans (World.cell?_alloc_at _ _ _ _ rfl)
        have e4 := (b1.cell (p := ⟨wr.heap.size, 4, none⟩) (by simp)).trans (World.cell?_alloc_at _ _ _ _ rfl)
        clear c0 c1 c2 c3 c4
        by_cases h0 : k ≤ 0
        · have hd : decide (0 < k) = false := by simp; omega
          have HN := Lib.hid (okG_first (bef := trBef) HX.out HV.out (by omega))
          go_wp2_with fail
          refine wp_region_lat w1.heap.size (by kernel_rfl) (by kernel_rfl) ?_
          have LC := fun (u : Lat w1.heap.size w1) => u.cell
          repeat (go_big_quiet_step (fail))
          refine wpQuiet_nil ?_
          intro w2 hb2
          clear LC
          have hB2 := hB1.trans (hb2.mono hB1.size)
          go_wp2
          go_roundw
          case rel => exact ⟨k + 1, by omega, by go_num, rfl, HR.out.step HN.out, hB2⟩
          case measure => simp [intOf]; omega
        · obtain ⟨y, hyk⟩ : ∃ y, xs[k - 1]? = some y := ⟨xs[k - 1], List.getElem?_eq_getElem (by omega)⟩
          obtain ⟨g', o', hA', hg1, d0, d1, d2, d3, d4⟩ := (hA.below hB1).at5 hyk
          injection hA' with hA'
          injection hA' with hA1 hA2
          subst hA1; subst hA2
          have C2 := Lib.hid (fun w => compareTreaties_any y x w)
          obtain ⟨q, hq⟩ : ∃ q, q = trCmp y x := ⟨_, rfl⟩
          have hp : 0 < k := by omega
          have HN := Lib.hid ((okT_next HX.out HV.out hp hyk).trans (show _ = ((!decide (0 ≤ q)) && !(decide (y.a = x.a) && (decide (y.b = x.b) && decide (x.c ≤ y.d)))) by rw [hq, trCmp_less, Bool.not_not]))
          rw [← hq] at C2
          clear hyk h0 hq
          by_cases hq0 : 0 ≤ q
          · have hd1 : decide (0 ≤ q) = true := by simp [hq0]
            have HN1 := Lib.hid (HN.out.trans (show _ = false by simp [hq0]))
            go_wp2_with fail
            refine wp_region_lat w1.heap.size (by kernel_rfl) (by kernel_rfl) ?_
            have LC := fun (u : Lat w1.heap.size w1) => u.cell
            repeat (go_big_quiet_step ((go_at_call 52; exact lat_call _ (by simp) (C2.out _))))
            refine wpQuiet_nil ?_
            intro w2 hb2
            clear LC
            have hB2 := hB1.trans (hb2.mono hB1.size)
            go_wp2
            go_ret
            exact ⟨ret_bool (trL_no (k := k) (by omega) HN1.out).symm, hB2⟩
          · have hd1 : decide (0 ≤ q) = false := by simp; omega
            by_cases ha : y.a = x.a
            · have ha' : (y.a == x.a) = true := by simp [ha]
              have HA := Lib.hid ha
              clear ha
              by_cases hbb : y.b = x.b
              · have hb' : (y.b == x.b) = true := by simp [hbb]
                have HBB := Lib.hid hbb
                clear hbb
                by_cases hd : x.c ≤ y.d
                · have hd2 : decide (x.c ≤ y.d) = true := by simp [hd]
                  have HN1 := Lib.hid (HN.out.trans (show _ = false by simp [HA.out, HBB.out, hd]))
                  go_wp2_with fail
                  refine wp_region_lat w1.heap.size (by kernel_rfl) (by kernel_rfl) ?_
                  have LC := fun (u : Lat w1.heap.size w1) => u.cell
                  repeat (go_big_quiet_step ((go_at_call 52; exact lat_call _ (by simp) (C2.out _))))
                  refine wpQuiet_nil ?_
                  intro w2 hb2
                  clear LC
                  have hB2 := hB1.trans (hb2.mono hB1.size)
                  go_wp2
                  go_ret
                  exact ⟨ret_bool (trL_no (k := k) (by omega) HN1.out).symm, hB2⟩
                · have hd2 : decide (x.c ≤ y.d) = false := by simp; omega
                  have HN1 := Lib.hid (HN.out.trans (show _ = true by rw [hd1, hd2]; simp))
                  go_wp2_with fail
                  refine wp_region_lat w1.heap.size (by kernel_rfl) (by kernel_rfl) ?_
                  have LC := fun (u : Lat w1.heap.size w1) => u.cell
                  repeat (go_big_quiet_step ((go_at_call 52; exact lat_call _ (by simp) (C2.out _))))
                  refine wpQuiet_nil ?_
                  intro w2 hb2
                  clear LC
                  have hB2 := hB1.trans (hb2.mono hB1.size)
                  go_wp2
                  go_roundw
                  case rel => exact ⟨k + 1, by omega, by go_num, rfl, HR.out.step HN1.out, hB2⟩
                  case measure => simp [intOf]; omega
              · have hb' : (y.b == x.b) = false := by simp [hbb]
                have HN1 := Lib.hid (HN.out.trans (show _ = true by rw [hd1]; simp [hbb]))
                go_wp2_with fail
                refine wp_region_lat w1.heap.size (by kernel_rfl) (by kernel_rfl) ?_
                have LC := fun (u : Lat w1.heap.size w1) => u.cell
                repeat (go_big_quiet_step ((go_at_call 52; exact lat_call _ (by simp) (C2.out _))))
                refine wpQuiet_nil ?_
                intro w2 hb2
                clear LC
                have hB2 := hB1.trans (hb2.mono hB1.size)
                go_wp2
                go_roundw
                case rel => exact ⟨k + 1, by omega, by go_num, rfl, HR.out.step HN1.out, hB2⟩
                case measure => simp [intOf]; omega
            · have ha' : (y.a == x.a) = false := by simp [ha]
              have HN1 := Lib.hid (HN.out.trans (show _ = true by rw [hd1]; simp [ha]))
              go_wp2_with fail
              refine wp_region_lat w1.heap.size (by kernel_rfl) (by kernel_rfl) ?_
              have LC := fun (u : Lat w1.heap.size w1) => u.cell
              repeat (go_big_quiet_step ((go_at_call 52; exact lat_call _ (by simp) (C2.out _))))
              refine wpQuiet_nil ?_
              intro w2 hb2
              clear LC
              have hB2 := hB1.trans (hb2.mono hB1.size)
              go_wp2
              go_roundw
              case rel => exact ⟨k + 1, by omega, by go_num, rfl, HR.out.step HN1.out, hB2⟩
              case measure => simp [intOf]; omega
    · go_wp2
      go_ret
      exact ⟨ret_bool (trL_end HR.out hn (by omega)), hb⟩
end Go.Proofs.YtnaehlglpaadhaaDoor
