/- Whether a list is a list of treaties: the two functions. -/
import Derived.Test.YtnaehlglpaadhaaTreB
namespace Go.Proofs.Ytnaehlglpaadhaa
set_option linter.unusedVariables false
set_option linter.unusedSimpArgs false
open Go.RowKit


end Go.Proofs.Ytnaehlglpaadhaa
