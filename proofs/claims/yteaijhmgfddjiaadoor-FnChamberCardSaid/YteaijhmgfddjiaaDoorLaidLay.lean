/- What a row's longer list gives: what the walks ask of the library's variables; and a world that meets it. -/
import Derived.Test.YteaijhmgfddjiaaDoorLay
import Derived.Test.YteaijhmgfddjiaaDoorLaidTab
import GoSem.PinnedTables
set_option linter.unusedSimpArgs false
set_option linter.unnecessarySimpa false
set_option linter.unusedVariables false
set_option maxRecDepth 100000
namespace Go.Proofs.YteaijhmgfddjiaaDoor
open Go.ChangeShapes Go.RowKit

theorem star : "*" ++ "errors.errorString" = "*errors.errorString" := by decide
theorem rowE (u : TypeId) (h : Tryd.prog.typeName? 3 u = some "*errors.errorString") : u = 128 :=
  typeName_ptr_named (nm := "errors.errorString") (by rw [star]; kernel_rfl) (by kernel_rfl) (by decide) u (by rw [star]; exact h)
theorem cells_es : Tryd.prog.cellsOf 130 = 1 := by kernel_rfl
theorem cells_st : Tryd.prog.cellsOf 9 = 1 := by kernel_rfl
theorem gFar : Tryd.prog.globalNamed "strconv.ErrRange" = some 2 := by kernel_rfl
theorem gFarType : (Tryd.prog.globals[2]?).map (·.type) = some 75 := by kernel_rfl
theorem gBad : Tryd.prog.globalNamed "strconv.ErrSyntax" = some 1 := by kernel_rfl
theorem gBadType : (Tryd.prog.globals[1]?).map (·.type) = some 75 := by kernel_rfl

/-- The rows' longer list. -/
def laid7 : List (String × DataW Unit) := [("math/bits.deBruijn32tab", Rows.laid_math_bits_deBruijn32tab), ("math/bits.deBruijn64tab", Rows.laid_math_bits_deBruijn64tab), ("internal/strconv.uint64pow10", Rows.laid_internal_strconv_uint64pow10), ("unicode/utf8.acceptRanges", Rows.laid_unicode_utf8_acceptRanges), ("strconv.ErrRange", Rows.laid_strconv_ErrRange), ("strconv.ErrSyntax", Rows.laid_strconv_ErrSyntax), ("unicode/utf8.first", Rows.laid_unicode_utf8_first)]
theorem Lay.of_laid {W : World} (h : laidMetH Tryd.prog laid7 W) (hs : W.ShapedOpen Tryd.prog) : Lay W := by
  have h' : laidMet Tryd.prog laid7 W := h
  have h2 : laidMet Tryd.prog (("internal/strconv.uint64pow10", Lib.tabData .u64 Lib.pow10Tab) :: laid7.drop 3) W := h'.tail.tail
  obtain ⟨a1, s1, hv1, _⟩ := laid_sentinel (h'.tail.tail.tail.tail) gFar gFarType Tryd.underlying75 rowE Tryd.underlying128 Tryd.underlying130 rfl rfl Tryd.underlying9 cells_es cells_st
  obtain ⟨a2, s2, hv2, _⟩ := laid_sentinel (h'.tail.tail.tail.tail.tail) gBad gBadType Tryd.underlying75 rowE Tryd.underlying128 Tryd.underlying130 rfl rfl Tryd.underlying9 cells_es cells_st
  exact ⟨Lib.tabIs_of_head gTab gTabType Tryd.underlying120 Tryd.underlying56 cells_u64 cells_tab h2,
    cell_of_shapedOpen_int (zero := #[.int .i64 0]) (t := 3) hs (of_decide_eq_true (by kernel_rfl)) (by kernel_rfl) rfl (by kernel_rfl) (by kernel_rfl) Tryd.underlying3,
    ⟨_, World.var?_cell gBad hv2 0, .inr ⟨_, _, rfl⟩⟩, ⟨_, World.var?_cell gFar hv1 0, .inr ⟨_, _, rfl⟩⟩⟩
/-- A world whose heap is the one that the program's own initialisers leave; the table that the dump leaves out is laid by hand. -/
noncomputable def layWorld (os : Os) : World :=
  { World.doorLaid Tryd.prog 400 os with heap := (World.doorLaid Tryd.prog 400 os).heap.modify 4 fun o => match o with
      | .cells _ t r => .cells (Go.Pinned.utf8FirstZ.map fun n => Value.int .u8 (n : Nat)).toArray t r
      | o => o }
theorem Lay.met (os : Os) (args : Array Value) : laidMetH Tryd.prog laid7 ((layWorld os).forCall (fun _ _ => 0) ⟨#[], args, []⟩).memory := laidMet_of_run' 8 (by kernel_rfl) (by kernel_rfl)

end Go.Proofs.YteaijhmgfddjiaaDoor
