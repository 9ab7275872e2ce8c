/- Stock book: widths. -/
import Derived.Test.YtacacibpehnmgaaGreatDoorGen
namespace Go.Proofs.YtacacibpehnmgaaGreatDoor
set_option linter.unusedVariables false
set_option linter.unusedSimpArgs false
open Go.RowKit

theorem l27Width_any (n : Int) (w : World) : Calls Tryz.prog 38 #[.int .i64 n] w (RetS (.bool (wdB n)) w) := by
  have C := Lib.hid (fun w => l1In_any n 10 60 w)
  go_enter Tryz.func38, Tryz.ntmps38
  go_wp2_with fail
  refine (C.out _).mono ?_
  rintro e w1 ⟨rfl, rfl⟩
  go_wp2
  go_ret
  exact ⟨rfl, rfl⟩
theorem isWidth_any (n : Int) (w : World) : Calls Tryz.prog 33 #[.int .i64 n] w (RetS (.bool (wdB n)) w) := by
  have C := Lib.hid (fun w => inRange_any n 10 60 w)
  go_enter Tryz.func33, Tryz.ntmps33
  go_wp2_with fail
  refine (C.out _).mono ?_
  rintro e w1 ⟨rfl, rfl⟩
  go_wp2
  go_ret
  exact ⟨rfl, rfl⟩
end Go.Proofs.YtacacibpehnmgaaGreatDoor
