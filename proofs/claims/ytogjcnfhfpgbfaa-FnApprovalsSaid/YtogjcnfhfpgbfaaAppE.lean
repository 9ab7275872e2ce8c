/- Approvals: comparison, and the numbers that a list holds. -/
import Derived.Test.YtogjcnfhfpgbfaaApp
namespace Go.Proofs.Ytogjcnfhfpgbfaa
set_option linter.unusedVariables false
set_option linter.unusedSimpArgs false
open Go.RowKit


end Go.Proofs.Ytogjcnfhfpgbfaa
