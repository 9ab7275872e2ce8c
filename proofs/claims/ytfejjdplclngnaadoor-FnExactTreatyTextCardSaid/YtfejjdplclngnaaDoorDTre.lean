/- Which treaties are valid. -/
import Derived.Test.YtfejjdplclngnaaDoorDDay
namespace Go.Proofs.YtfejjdplclngnaaDoor
set_option linter.unusedVariables false
set_option linter.unusedSimpArgs false
open Go.RowKit

theorem toTreaty_any (a0 a1 a2 a3 a4 : Int) (w : World) :
    Calls Tryd.prog 9 #[.agg #[.int .i64 a0, .int .i64 a1, .int .i64 a2, .int .i64 a3, .int .i64 a4]] w (Ret (.agg #[.int .i64 a0, .int .i64 a1, .int .i64 a2, .int .i64 a3, .int .i64 a4]) w) := by
  go_enter Tryd.func9, Tryd.ntmps9
  go_wp2
  refine bodyPost_ret (v := .agg #[.int .i64 a0, .int .i64 a1, .int .i64 a2, .int .i64 a3, .int .i64 a4]) (by simp [results, Tryd.results9, go_sem]) rfl ⟨rfl, ?_⟩
  exact (((Below.refl _ _).alloc (Nat.le_refl _) _).alloc (by simp) _).alloc (by simp; omega) _

theorem isPost_any (a : Int) (w : World) : Calls Tryd.prog 52 #[.int .i64 a] w (RetS (.bool (inR a 0 8)) w) := by
  go_enter Tryd.func52, Tryd.ntmps52
  go_wp2_with (go_at_call 54; refine (inRange_any _ _ _ _).mono ?_; rintro e w' ⟨rfl, rfl⟩)
  go_ret
  exact ⟨rfl, rfl⟩

theorem l25Post_any (a : Int) (w : World) : Calls Tryd.prog 49 #[.int .i64 a] w (RetS (.bool (inR a 0 8)) w) := by
  go_enter Tryd.func49, Tryd.ntmps49
  go_wp2_with (go_at_call 50; refine (l1In_any _ _ _ _).mono ?_; rintro e w' ⟨rfl, rfl⟩)
  go_ret
  exact ⟨rfl, rfl⟩

/-- A treaty: a is its A, b its B, c its From, d its Until, e its Share. -/
def trB (x : R5) : Bool := decide ((0 ≤ x.a ∧ x.a ≤ 8) ∧ (0 ≤ x.b ∧ x.b ≤ 8) ∧ x.a < x.b ∧ (0 ≤ x.c ∧ x.c ≤ 4000) ∧ (0 ≤ x.d ∧ x.d ≤ 4000) ∧ x.c ≤ x.d ∧ (1 ≤ x.e ∧ x.e ≤ 99))
set_option maxHeartbeats 1000000 in
theorem isTreaty_any (x : R5) (w : World) :
    Calls Tryd.prog 29 #[.agg #[.int .i64 x.a, .int .i64 x.b, .int .i64 x.c, .int .i64 x.d, .int .i64 x.e]] w (Ret (.bool (trB x)) w) := by
  go_enter Tryd.func29, Tryd.ntmps29
  go_wp2_with (first
    | (go_at_call 54; refine (inRange_any _ _ _ _).mono ?_; rintro e w' ⟨rfl, rfl⟩)
    | (go_at_call 52; refine (isPost_any _ _).mono ?_; rintro e w' ⟨rfl, rfl⟩)
    | (go_at_call 53; refine (isDay_any _ _).mono ?_; rintro e w' ⟨rfl, rfl⟩))
  all_goals
    go_ret
    refine ⟨ret_bool ?_, (Below.refl _ _).alloc (Nat.le_refl _) _⟩
    go_light
    grind [trB, inR]

set_option maxHeartbeats 1000000 in
theorem l25One_any (x : R5) (w : World) :
    Calls Tryd.prog 27 #[.agg #[.int .i64 x.a, .int .i64 x.b, .int .i64 x.c, .int .i64 x.d, .int .i64 x.e]] w (Ret (.bool (trB x)) w) := by
  cases hp : inR x.b 0 8 with
  | false =>
    have e : trB x = false := by simp only [trB, inR] at *; grind
    have C1 := Lib.hid (fun w => l25Post_any x.b w)
    rw [hp] at C1
    rw [e]
    clear hp e
    go_enter Tryd.func27, Tryd.ntmps27
    go_wp2_with fail
    refine (C1.out _).mono ?_
    rintro e w' ⟨rfl, rfl⟩
    go_wp2
    go_ret
    exact ⟨rfl, (Below.refl _ _).alloc (Nat.le_refl _) _⟩
  | true =>
    obtain ⟨b1, b2⟩ := inR_true.1 hp
    have C1 := Lib.hid (fun w => l25Post_any x.b w)
    rw [hp] at C1
    clear hp
    go_enter Tryd.func27, Tryd.ntmps27
    go_wp2_with fail
    refine (C1.out _).mono ?_
    rintro e w' ⟨rfl, rfl⟩
    go_wp2_with (first
      | (go_at_call 50; refine (l1In_any _ _ _ _).mono ?_; rintro e w' ⟨rfl, rfl⟩)
      | (go_at_call 51; refine (l2Day_any _ _).mono ?_; rintro e w' ⟨rfl, rfl⟩))
    all_goals
      go_ret
      refine ⟨ret_bool ?_, (Below.refl _ _).alloc (Nat.le_refl _) _⟩
      go_light
      grind [trB, inR]

theorem trB_bd {x : R5} (h : trB x = true) : (0 ≤ x.a ∧ x.a ≤ 8) ∧ (0 ≤ x.b ∧ x.b ≤ 8) ∧ x.a < x.b ∧ (0 ≤ x.c ∧ x.c ≤ 4000) ∧ (0 ≤ x.d ∧ x.d ≤ 4000) ∧ x.c ≤ x.d ∧ (1 ≤ x.e ∧ x.e ≤ 99) := by
  simpa only [trB, decide_eq_true_eq] using h
end Go.Proofs.YtfejjdplclngnaaDoor
