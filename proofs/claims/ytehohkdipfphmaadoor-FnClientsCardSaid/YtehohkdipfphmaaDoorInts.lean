/- Comparisons and marks of lists of ints. -/
import Derived.Test.YtehohkdipfphmaaDoorIn
import Derived.Test.YtehohkdipfphmaaDoorExt
namespace Go.Proofs.YtehohkdipfphmaaDoor
set_option linter.unusedVariables false
set_option linter.unusedSimpArgs false
open Go.RowKit



end Go.Proofs.YtehohkdipfphmaaDoor
