/- The laws' copy of a slice of numbers, in the form that the laws' walks take. -/
import Derived.Test.YtgdfecnpkjnhnaaDoorKInts
import Derived.Test.YtgdfecnpkjnhnaaDoorIntsTo
set_option linter.unusedSimpArgs false
set_option linter.unnecessarySimpa false
set_option linter.unusedVariables false
namespace Go.Proofs.YtgdfecnpkjnhnaaDoor
open Go.RowKit

end Go.Proofs.YtgdfecnpkjnhnaaDoor
