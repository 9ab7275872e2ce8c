/- The stock book: comparison, and the numbers that a list holds. -/
import Derived.Test.YtacacibpehnmgaaGreatDoorBook
namespace Go.Proofs.YtacacibpehnmgaaGreatDoor
set_option linter.unusedVariables false
set_option linter.unusedSimpArgs false
open Go.RowKit


end Go.Proofs.YtacacibpehnmgaaGreatDoor
