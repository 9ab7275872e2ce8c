/- Which insurances are valid. -/
import Derived.Test.YtfejjdplclngnaaDoorDDay
namespace Go.Proofs.YtfejjdplclngnaaDoor
set_option linter.unusedVariables false
set_option linter.unusedSimpArgs false
open Go.RowKit

theorem toInsured_any (a0 a1 a2 a3 a4 : Int) (w : World) :
    Calls Tryd.prog 12 #[.agg #[.int .i64 a0, .int .i64 a1, .int .i64 a2, .int .i64 a3, .int .i64 a4]] w (Ret (.agg #[.int .i64 a0, .int .i64 a1, .int .i64 a2, .int .i64 a3, .int .i64 a4]) w) := by
  go_enter Tryd.func12, Tryd.ntmps12
  go_wp2
  refine bodyPost_ret (v := .agg #[.int .i64 a0, .int .i64 a1, .int .i64 a2, .int .i64 a3, .int .i64 a4]) (by simp [results, Tryd.results12, go_sem]) rfl ⟨rfl, ?_⟩
  exact (((Below.refl _ _).alloc (Nat.le_refl _) _).alloc (by simp) _).alloc (by simp; omega) _

theorem isItem_any (a : Int) (w : World) : Calls Tryd.prog 58 #[.int .i64 a] w (RetS (.bool (inR a 1 999)) w) := by
  go_enter Tryd.func58, Tryd.ntmps58
  go_wp2_with (go_at_call 54; refine (inRange_any _ _ _ _).mono ?_; rintro e w' ⟨rfl, rfl⟩)
  go_ret
  exact ⟨rfl, rfl⟩

theorem isWorth_any (a : Int) (w : World) : Calls Tryd.prog 59 #[.int .i64 a] w (RetS (.bool (inR a 1 10000000)) w) := by
  go_enter Tryd.func59, Tryd.ntmps59
  go_wp2_with (go_at_call 54; refine (inRange_any _ _ _ _).mono ?_; rintro e w' ⟨rfl, rfl⟩)
  go_ret
  exact ⟨rfl, rfl⟩

theorem l26Item_any (a : Int) (w : World) : Calls Tryd.prog 56 #[.int .i64 a] w (RetS (.bool (inR a 1 999)) w) := by
  go_enter Tryd.func56, Tryd.ntmps56
  go_wp2_with (go_at_call 50; refine (l1In_any _ _ _ _).mono ?_; rintro e w' ⟨rfl, rfl⟩)
  go_ret
  exact ⟨rfl, rfl⟩

theorem l26Cents_any (a : Int) (w : World) : Calls Tryd.prog 57 #[.int .i64 a] w (RetS (.bool (inR a 1 10000000)) w) := by
  go_enter Tryd.func57, Tryd.ntmps57
  go_wp2_with (go_at_call 50; refine (l1In_any _ _ _ _).mono ?_; rintro e w' ⟨rfl, rfl⟩)
  go_ret
  exact ⟨rfl, rfl⟩

/-- An insurance: a is its Item, b its From, c its Until, d its Cents, e its Rate. -/
def insB (x : R5) : Bool := decide ((1 ≤ x.a ∧ x.a ≤ 999) ∧ (0 ≤ x.b ∧ x.b ≤ 4000) ∧ (0 ≤ x.c ∧ x.c ≤ 4000) ∧ x.b ≤ x.c ∧ (1 ≤ x.d ∧ x.d ≤ 10000000) ∧ (1 ≤ x.e ∧ x.e ≤ 500))
set_option maxHeartbeats 1000000 in
theorem isInsured_any (x : R5) (w : World) :
    Calls Tryd.prog 32 #[.agg #[.int .i64 x.a, .int .i64 x.b, .int .i64 x.c, .int .i64 x.d, .int .i64 x.e]] w (Ret (.bool (insB x)) w) := by
  go_enter Tryd.func32, Tryd.ntmps32
  go_wp2_with (first
    | (go_at_call 54; refine (inRange_any _ _ _ _).mono ?_; rintro e w' ⟨rfl, rfl⟩)
    | (go_at_call 58; refine (isItem_any _ _).mono ?_; rintro e w' ⟨rfl, rfl⟩)
    | (go_at_call 53; refine (isDay_any _ _).mono ?_; rintro e w' ⟨rfl, rfl⟩)
    | (go_at_call 59; refine (isWorth_any _ _).mono ?_; rintro e w' ⟨rfl, rfl⟩))
  all_goals
    go_ret
    refine ⟨ret_bool ?_, (Below.refl _ _).alloc (Nat.le_refl _) _⟩
    go_light
    grind [insB, inR]

set_option maxHeartbeats 1000000 in
theorem l26One_any (x : R5) (w : World) :
    Calls Tryd.prog 31 #[.agg #[.int .i64 x.a, .int .i64 x.b, .int .i64 x.c, .int .i64 x.d, .int .i64 x.e]] w (Ret (.bool (insB x)) w) := by
  go_enter Tryd.func31, Tryd.ntmps31
  go_wp2_with (first
    | (go_at_call 50; refine (l1In_any _ _ _ _).mono ?_; rintro e w' ⟨rfl, rfl⟩)
    | (go_at_call 56; refine (l26Item_any _ _).mono ?_; rintro e w' ⟨rfl, rfl⟩)
    | (go_at_call 51; refine (l2Day_any _ _).mono ?_; rintro e w' ⟨rfl, rfl⟩)
    | (go_at_call 57; refine (l26Cents_any _ _).mono ?_; rintro e w' ⟨rfl, rfl⟩))
  all_goals
    go_ret
    refine ⟨ret_bool ?_, (Below.refl _ _).alloc (Nat.le_refl _) _⟩
    go_light
    grind [insB, inR]

theorem insB_bd {x : R5} (h : insB x = true) : (1 ≤ x.a ∧ x.a ≤ 999) ∧ (0 ≤ x.b ∧ x.b ≤ 4000) ∧ (0 ≤ x.c ∧ x.c ≤ 4000) ∧ x.b ≤ x.c ∧ (1 ≤ x.d ∧ x.d ≤ 10000000) ∧ (1 ≤ x.e ∧ x.e ≤ 500) := by
  simpa only [insB, decide_eq_true_eq] using h
end Go.Proofs.YtfejjdplclngnaaDoor
