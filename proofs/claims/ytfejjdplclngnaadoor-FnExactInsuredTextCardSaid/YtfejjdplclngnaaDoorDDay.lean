/- Days. -/
import Derived.Test.YtfejjdplclngnaaDoorIn
import Derived.Test.YtfejjdplclngnaaDoorExt
import Derived.Deep.Light
import Derived.StillTailTactics
namespace Go.Proofs.YtfejjdplclngnaaDoor
set_option linter.unusedVariables false
set_option linter.unusedSimpArgs false
open Go.RowKit

theorem isDay_any (a : Int) (w : World) : Calls Tryd.prog 53 #[.int .i64 a] w (RetS (.bool (inR a 0 4000)) w) := by
  go_enter Tryd.func53, Tryd.ntmps53
  go_wp2_with (go_at_call 54; refine (inRange_any _ _ _ _).mono ?_; rintro e w' ⟨rfl, rfl⟩)
  go_ret
  exact ⟨rfl, rfl⟩

theorem l2Day_any (a : Int) (w : World) : Calls Tryd.prog 51 #[.int .i64 a] w (RetS (.bool (inR a 0 4000)) w) := by
  go_enter Tryd.func51, Tryd.ntmps51
  go_wp2_with (go_at_call 50; refine (l1In_any _ _ _ _).mono ?_; rintro e w' ⟨rfl, rfl⟩)
  go_ret
  exact ⟨rfl, rfl⟩

end Go.Proofs.YtfejjdplclngnaaDoor
