/- Contract of impl.ComposeRows. -/
import Derived.Test.YteaijhmgfddjiaaComp
set_option linter.unusedSimpArgs false
set_option linter.unnecessarySimpa false
set_option linter.unusedVariables false
set_option maxRecDepth 100000
namespace Go.Proofs.Yteaijhmgfddjiaa
open Go.RowKit

end Go.Proofs.Yteaijhmgfddjiaa
