/- Contracts of the laws' helpers over slices of Tone: equality, marks; slices.Equal. -/
import Derived.Test.YthnnjjcopehccaaTon
set_option linter.unusedSimpArgs false
set_option linter.unnecessarySimpa false
set_option linter.unusedVariables false
namespace Go.Proofs.Ythnnjjcopehccaa
open Go.RowKit

end Go.Proofs.Ythnnjjcopehccaa
