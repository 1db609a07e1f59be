/- Contract of slices.Sort at []int64. -/
import Derived.Test.YtgdfecnpkjnhnaaDoorShelf
import Derived.Test.YtgdfecnpkjnhnaaDoorChecked
import Derived.Test.YtgdfecnpkjnhnaaDoorPutL
import Derived.Test.YtgdfecnpkjnhnaaDoorApp
import Derived.Sort.OwnSortedInts
import Derived.Lib.OwnBridge
import Derived.Deep.QuietTactic
import Derived.BigQuiet
set_option linter.unusedSimpArgs false
set_option linter.unnecessarySimpa false
set_option linter.unusedVariables false
set_option maxRecDepth 100000
namespace Go.Proofs.YtgdfecnpkjnhnaaDoor
open Go.RowKit

theorem info_int64 : (Tryd.prog.info? 2).map (fun i => (i.zero, i.size, i.bytes)) = some (some (.int .i64 0), 1, 8) := by kernel_rfl

end Go.Proofs.YtgdfecnpkjnhnaaDoor
