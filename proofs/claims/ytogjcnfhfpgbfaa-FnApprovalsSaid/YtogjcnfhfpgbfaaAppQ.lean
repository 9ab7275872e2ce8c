/- Approvals: KeepShare: fractions. -/
import Derived.Test.YtogjcnfhfpgbfaaAppN
namespace Go.Proofs.Ytogjcnfhfpgbfaa
set_option linter.unusedVariables false
set_option linter.unusedSimpArgs false
open Go.RowKit

def RetQ (a b : Nat) (W : World) : Ending → World → Prop := fun e w' => e = .returned (.tuple #[.int .i64 ((a / Nat.gcd a b : Nat) : Int), .int .i64 ((b / Nat.gcd a b : Nat) : Int)]) ∧ Below W.heap.size W w'

theorem wrap_small (q : Nat) (h : q ≤ 1000000000000) : wrap64 (q : Int) = (q : Int) := by unfold wrap64; omega
theorem ret_ii {a b c d : Int} (h : a = c) (g : b = d) : Ending.returned (.tuple #[.int .i64 a, .int .i64 b]) = .returned (.tuple #[.int .i64 c, .int .i64 d]) := by rw [h, g]

theorem l1Most_any (a b : Int) (w : World) : Calls Try.prog 52 #[.int .i64 a, .int .i64 b] w (RetS (.int .i64 (max a b)) w) := by
  by_cases h : b < a
  · have HE := Lib.hid (show max a b = a by omega)
    go_enter Try.func52, Try.ntmps52
    go_wp2
    go_ret
    exact ⟨ret_int HE.out.symm, rfl⟩
  · have HE := Lib.hid (show max a b = b by omega)
    go_enter Try.func52, Try.ntmps52
    go_wp2
    go_ret
    exact ⟨ret_int HE.out.symm, rfl⟩
end Go.Proofs.Ytogjcnfhfpgbfaa
