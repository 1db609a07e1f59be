/- The library's longest length of a search stands in memory. -/
import Derived.Test.YtgdfecnpkjnhnaaDoorChecked
import Derived.Test.YtgdfecnpkjnhnaaDoorMem
set_option linter.unusedSimpArgs false
set_option linter.unnecessarySimpa false
set_option linter.unusedVariables false
set_option maxRecDepth 100000
namespace Go.Proofs.YtgdfecnpkjnhnaaDoor
open Go.RowKit

def MaxL (w : World) : Prop := ∃ m, w.cell? ⟨0, 0, none⟩ = some (.int .i64 m)
theorem MaxL.mono {w w' : World} (h : MaxL w) (hb : Below w.heap.size w w') : MaxL w' := h.imp fun _ h => (hb.cell (World.block_lt_of_cell? w _ h)).trans h
end Go.Proofs.YtgdfecnpkjnhnaaDoor
