/- The reference's text of a list of numbers. Contract of l01List. -/
import Derived.Test.YtgdfecnpkjnhnaaDoorDecS
import Derived.Test.YtgdfecnpkjnhnaaDoorListL
set_option linter.unusedSimpArgs false
set_option linter.unnecessarySimpa false
set_option linter.unusedVariables false
set_option maxRecDepth 100000
namespace Go.Proofs.YtgdfecnpkjnhnaaDoor
open Go.RowKit

theorem l01DecB_any (n : Int) (w : World) (hn : I64 n) :
    Calls Tryd.prog 68 #[.int .i64 n] w fun e w' => e = .returned (.string (decB n)) ∧ Below w.heap.size w w' := l01Dec_any n w hn

end Go.Proofs.YtgdfecnpkjnhnaaDoor
