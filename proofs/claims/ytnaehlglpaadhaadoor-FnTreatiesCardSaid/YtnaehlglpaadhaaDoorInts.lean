/- Comparisons and marks of lists of ints. -/
import Derived.Test.YtnaehlglpaadhaaDoorIn
import Derived.Test.YtnaehlglpaadhaaDoorExt
namespace Go.Proofs.YtnaehlglpaadhaaDoor
set_option linter.unusedVariables false
set_option linter.unusedSimpArgs false
open Go.RowKit



end Go.Proofs.YtnaehlglpaadhaaDoor
