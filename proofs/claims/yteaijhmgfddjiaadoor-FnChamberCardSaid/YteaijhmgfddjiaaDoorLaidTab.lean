/- What a row's list gives: the library's table of powers of ten; and a world that meets it. -/
import Derived.Test.YteaijhmgfddjiaaDoorListI
import Derived.Test.YteaijhmgfddjiaaDoorFrame
import Derived.Stop.LaidErr
import Derived.LaidMore
set_option linter.unusedSimpArgs false
set_option linter.unnecessarySimpa false
set_option linter.unusedVariables false
set_option maxRecDepth 100000
namespace Go.Proofs.YteaijhmgfddjiaaDoor
open Go.ChangeShapes Go.RowKit

theorem gTab : Tryd.prog.globalNamed "internal/strconv.uint64pow10" = some 3 := by kernel_rfl
theorem gTabType : (Tryd.prog.globals[3]?).map (·.type) = some 120 := by kernel_rfl
theorem cells_tab : Tryd.prog.cellsOf 120 = 20 := by kernel_rfl
theorem cells_u64 : Tryd.prog.cellsOf 56 = 1 := by kernel_rfl
/-- The rows' list of the library's tables. -/
def laid3 : List (String × DataW Unit) := [("math/bits.deBruijn32tab", Rows.laid_math_bits_deBruijn32tab), ("math/bits.deBruijn64tab", Rows.laid_math_bits_deBruijn64tab), ("internal/strconv.uint64pow10", Rows.laid_internal_strconv_uint64pow10)]
theorem Tab.of_laid {W : World} (h : laidMetH Tryd.prog laid3 W) (_ : W.ShapedOpen Tryd.prog) : Tab W := by
  have h' : laidMet Tryd.prog laid3 W := h
  have h2 : laidMet Tryd.prog [("internal/strconv.uint64pow10", Lib.tabData .u64 Lib.pow10Tab)] W := h'.tail.tail
  exact Lib.tabIs_of_head (rest := []) gTab gTabType Tryd.underlying120 Tryd.underlying56 cells_u64 cells_tab h2
/-- A world whose heap is the one that the program's own initialisers leave. -/
noncomputable def laidWorld (os : Os) : World := World.doorLaid Tryd.prog 72 os
theorem Tab.met (os : Os) (args : Array Value) : laidMetH Tryd.prog laid3 ((laidWorld os).forCall (fun _ _ => 0) ⟨#[], args, []⟩).memory := laidMet_of_run' 8 (by kernel_rfl) (by kernel_rfl)

end Go.Proofs.YteaijhmgfddjiaaDoor
