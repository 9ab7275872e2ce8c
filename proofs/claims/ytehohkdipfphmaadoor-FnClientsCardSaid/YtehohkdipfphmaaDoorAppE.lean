/- Approvals: comparison, and the numbers that a list holds. -/
import Derived.Test.YtehohkdipfphmaaDoorApp
namespace Go.Proofs.YtehohkdipfphmaaDoor
set_option linter.unusedVariables false
set_option linter.unusedSimpArgs false
open Go.RowKit


end Go.Proofs.YtehohkdipfphmaaDoor
