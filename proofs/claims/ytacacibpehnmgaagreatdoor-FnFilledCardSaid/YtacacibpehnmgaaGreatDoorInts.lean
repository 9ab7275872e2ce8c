/- Comparisons and marks of lists of ints. -/
import Derived.Test.YtacacibpehnmgaaGreatDoorIn
import Derived.Test.YtacacibpehnmgaaGreatDoorExt
namespace Go.Proofs.YtacacibpehnmgaaGreatDoor
set_option linter.unusedVariables false
set_option linter.unusedSimpArgs false
open Go.RowKit



end Go.Proofs.YtacacibpehnmgaaGreatDoor
