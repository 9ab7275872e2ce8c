/- Stock book: widths. -/
import Derived.Test.YtacacibpehnmgaaGen
namespace Go.Proofs.Ytacacibpehnmgaa
set_option linter.unusedVariables false
set_option linter.unusedSimpArgs false
open Go.RowKit

theorem l27Width_any (n : Int) (w : World) : Calls Try.prog 55 #[.int .i64 n] w (RetS (.bool (wdB n)) w) := by
  have C := Lib.hid (fun w => l1In_any n 10 60 w)
  go_enter Try.func55, Try.ntmps55
  go_wp2_with fail
  refine (C.out _).mono ?_
  rintro e w1 ⟨rfl, rfl⟩
  go_wp2
  go_ret
  exact ⟨rfl, rfl⟩
theorem isWidth_any (n : Int) (w : World) : Calls Try.prog 30 #[.int .i64 n] w (RetS (.bool (wdB n)) w) := by
  have C := Lib.hid (fun w => inRange_any n 10 60 w)
  go_enter Try.func30, Try.ntmps30
  go_wp2_with fail
  refine (C.out _).mono ?_
  rintro e w1 ⟨rfl, rfl⟩
  go_wp2
  go_ret
  exact ⟨rfl, rfl⟩
end Go.Proofs.Ytacacibpehnmgaa
