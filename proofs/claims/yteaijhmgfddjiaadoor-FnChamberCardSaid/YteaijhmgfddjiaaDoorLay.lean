/- What the walks ask of the library's variables: the table of powers of ten, the length MaxLen, the two errors of reading a number. -/
import Derived.Test.YteaijhmgfddjiaaDoorListI
import Derived.Test.YteaijhmgfddjiaaDoorKey
import Derived.Shelf.Vars
set_option linter.unusedSimpArgs false
set_option linter.unnecessarySimpa false
set_option linter.unusedVariables false
set_option maxRecDepth 100000
namespace Go.Proofs.YteaijhmgfddjiaaDoor
open Go.RowKit

structure Lay (w : World) : Prop where
  tab : Tab w
  len : ∃ m, w.cell? ⟨0, 0, none⟩ = some (.int .i64 m)
  bad : ∃ ev, w.cell? ⟨1, 0, none⟩ = some ev ∧ (ev = .nilIface ∨ ∃ te pe, ev = .iface te pe)
  far : ∃ ev, w.cell? ⟨2, 0, none⟩ = some ev ∧ (ev = .nilIface ∨ ∃ te pe, ev = .iface te pe)
theorem Lay.mono {w w' : World} (h : Lay w) (hb : Below w.heap.size w w') : Lay w' :=
  ⟨h.tab.mono hb, h.len.imp fun _ h => cellB hb h, h.bad.imp fun _ h => ⟨cellB hb h.1, h.2⟩, h.far.imp fun _ h => ⟨cellB hb h.1, h.2⟩⟩
end Go.Proofs.YteaijhmgfddjiaaDoor
