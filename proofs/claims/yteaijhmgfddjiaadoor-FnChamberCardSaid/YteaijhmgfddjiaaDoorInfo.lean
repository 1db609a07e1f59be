/- The row of int64 in the table of types. -/
import Derived.Test.YteaijhmgfddjiaaDoorChecked
import Derived.Test.YteaijhmgfddjiaaDoorMem
set_option linter.unusedSimpArgs false
set_option linter.unnecessarySimpa false
set_option linter.unusedVariables false
namespace Go.Proofs.YteaijhmgfddjiaaDoor
open Go.RowKit

theorem info_int : (Tryd.prog.info? 2).map (fun i => (i.zero, i.size, i.bytes)) = some (some (.int .i64 0), 1, 8) := by kernel_rfl

end Go.Proofs.YteaijhmgfddjiaaDoor
