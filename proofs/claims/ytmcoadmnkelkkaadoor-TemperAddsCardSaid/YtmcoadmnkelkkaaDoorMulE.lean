/- The reference of chapter 04: Pow. (Printed by genpow2.py from MulB.) -/
import Derived.Test.YtmcoadmnkelkkaaDoorMulD
import Derived.Test.YtmcoadmnkelkkaaDoorMulB
namespace Go.Proofs.YtmcoadmnkelkkaaDoor
set_option linter.unusedSimpArgs false
open Go.RowKit
set_option linter.unusedVariables false

end Go.Proofs.YtmcoadmnkelkkaaDoor
