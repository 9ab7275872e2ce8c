/- Whether a list is a list of treaties: the two functions. -/
import Derived.Test.YtnaehlglpaadhaaDoorTreB
namespace Go.Proofs.YtnaehlglpaadhaaDoor
set_option linter.unusedVariables false
set_option linter.unusedSimpArgs false
open Go.RowKit

theorem implAreTreaties_any (A : Option Addr) (n c : Nat) (xs : List R5) (w : World) (hn : xs.length = n) (hA : Rd w A (cells5 xs)) (h20 : n ≤ 1048576) :
    Calls Tryd.prog 18 #[.slice A n c] w (Ret (.bool (trL xs)) w) := by
  go_enter Tryd.func18, Tryd.ntmps18
  go_wp2_with fail
  refine (areTreaties_any A n c xs _ hn hA h20).mono ?_
  rintro e w1 ⟨rfl, b1⟩
  go_wp2
  go_ret
  exact ⟨rfl, b1⟩

end Go.Proofs.YtnaehlglpaadhaaDoor
