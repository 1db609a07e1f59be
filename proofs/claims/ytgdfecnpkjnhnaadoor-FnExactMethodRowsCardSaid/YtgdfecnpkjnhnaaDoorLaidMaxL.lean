/- The library's longest length of a search stands in memory; what a row's shorter list gives, and a world that meets it. -/
import Derived.Test.YtgdfecnpkjnhnaaDoorRows
import Derived.Test.YtgdfecnpkjnhnaaDoorMaxL
import Derived.Test.YtgdfecnpkjnhnaaDoorMem
import Derived.ProofKit
import Derived.OpenShut
import Derived.LaidMore
import Derived.Stop.LaidErr
import Derived.Shelf.Vars
import Derived.SevenTiedAt
import GoSem.PinnedTables
set_option linter.unusedSimpArgs false
set_option linter.unnecessarySimpa false
set_option linter.unusedVariables false
set_option maxRecDepth 100000
namespace Go.Proofs.YtgdfecnpkjnhnaaDoor
open Go.ChangeShapes Go.RowKit

/-- The rows' shorter list. -/
def laid2 : List (String × DataW Unit) := [("unicode/utf8.acceptRanges", Rows.laid_unicode_utf8_acceptRanges), ("unicode/utf8.first", Rows.laid_unicode_utf8_first)]
theorem MaxL.of_laid {W : World} (h : laidMetH Tryd.prog laid2 W) (hs : W.ShapedOpen Tryd.prog) : MaxL W :=
  cell_of_shapedOpen_int (zero := #[.int .i64 0]) (t := 3) hs (of_decide_eq_true (by kernel_rfl)) (by kernel_rfl) rfl (by kernel_rfl) (by kernel_rfl) Tryd.underlying3
/-- A world whose heap is the one that the program's own initialisers leave; the table that the dump leaves out is laid by hand. -/
noncomputable def maxlWorld (os : Os) : World :=
  { World.doorLaid Tryd.prog 400 os with heap := (World.doorLaid Tryd.prog 400 os).heap.modify 4 fun o => match o with
      | .cells _ t r => .cells (Go.Pinned.utf8FirstZ.map fun n => Value.int .u8 (n : Nat)).toArray t r
      | o => o }
theorem MaxL.met (os : Os) (args : Array Value) : laidMetH Tryd.prog laid2 ((maxlWorld os).forCall (fun _ _ => 0) ⟨#[], args, []⟩).memory := laidMet_of_run' 8 (by kernel_rfl) (by kernel_rfl)

end Go.Proofs.YtgdfecnpkjnhnaaDoor
