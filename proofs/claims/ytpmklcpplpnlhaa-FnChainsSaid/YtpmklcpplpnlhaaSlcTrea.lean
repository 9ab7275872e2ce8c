/- slices.Clone at lists of Treaty. -/
import Derived.Test.YtpmklcpplpnlhaaTrea
import Derived.Test.YtpmklcpplpnlhaaExt
import Derived.Lib.SliceRun
namespace Go.Proofs.Ytpmklcpplpnlhaa
set_option linter.unusedVariables false
set_option linter.unusedSimpArgs false
open Go.RowKit

end Go.Proofs.Ytpmklcpplpnlhaa
