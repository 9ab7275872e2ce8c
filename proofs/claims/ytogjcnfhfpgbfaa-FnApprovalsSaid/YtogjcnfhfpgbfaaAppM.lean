/- Approvals: AreApprovals. -/
import Derived.Test.YtogjcnfhfpgbfaaAppL
namespace Go.Proofs.Ytogjcnfhfpgbfaa
set_option linter.unusedVariables false
set_option linter.unusedSimpArgs false
open Go.RowKit

theorem specAreApprovals_any (A : Option Addr) (n c : Nat) (xs : List AR) (w : World) (hn : xs.length = n) (hA : RdA w A xs) (h20 : n ≤ 1048576) (hw : ∀ x ∈ xs, smA x) (hcap : n ≤ c ∧ c ≤ maxLen) :
    Calls Try.prog 22 #[.slice A n c] w (Ret (.bool (goodA xs)) w) := by
  go_enter Try.func22, Try.ntmps22
  go_wp2_with fail
  refine (l28Good_any A n c xs _ hn hA (by omega) hw).mono ?_
  rintro e w1 ⟨rfl, b1⟩
  go_wp2
  go_ret
  exact ⟨rfl, b1⟩
theorem implAreApprovals_any (A : Option Addr) (n c : Nat) (xs : List AR) (w : World) (hn : xs.length = n) (hA : RdA w A xs) (h20 : n ≤ 1048576) (hw : ∀ x ∈ xs, smA x) (hcap : n ≤ c ∧ c ≤ maxLen) :
    Calls Try.prog 21 #[.slice A n c] w (Ret (.bool (goodA xs)) w) := by
  go_enter Try.func21, Try.ntmps21
  go_wp2_with fail
  refine (areApprovals_any A n c xs _ hn hA (by omega) hw hcap).mono ?_
  rintro e w1 ⟨rfl, b1⟩
  go_wp2
  go_ret
  exact ⟨rfl, b1⟩
end Go.Proofs.Ytogjcnfhfpgbfaa
