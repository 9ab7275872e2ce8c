/- Comparisons and marks of lists of ints. -/
import Derived.Test.YtacacibpehnmgaaIn
import Derived.Test.YtacacibpehnmgaaExt
namespace Go.Proofs.Ytacacibpehnmgaa
set_option linter.unusedVariables false
set_option linter.unusedSimpArgs false
open Go.RowKit



end Go.Proofs.Ytacacibpehnmgaa
