/- Approvals: AreApprovals. -/
import Derived.Test.YtehohkdipfphmaaDoorAppL
namespace Go.Proofs.YtehohkdipfphmaaDoor
set_option linter.unusedVariables false
set_option linter.unusedSimpArgs false
open Go.RowKit

end Go.Proofs.YtehohkdipfphmaaDoor
