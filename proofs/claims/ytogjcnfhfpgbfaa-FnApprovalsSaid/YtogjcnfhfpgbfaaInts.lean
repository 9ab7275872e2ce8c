/- Comparisons and marks of lists of ints. -/
import Derived.Test.YtogjcnfhfpgbfaaIn
import Derived.Test.YtogjcnfhfpgbfaaExt
namespace Go.Proofs.Ytogjcnfhfpgbfaa
set_option linter.unusedVariables false
set_option linter.unusedSimpArgs false
open Go.RowKit



end Go.Proofs.Ytogjcnfhfpgbfaa
