/- The reference cuts a text at each of a byte. Contract of l01Split. -/
import Derived.Test.YteaijhmgfddjiaaDoorSplitL
import Derived.Test.YteaijhmgfddjiaaDoorInfo
set_option linter.unusedSimpArgs false
set_option linter.unnecessarySimpa false
set_option linter.unusedVariables false
set_option maxRecDepth 100000
namespace Go.Proofs.YteaijhmgfddjiaaDoor
open Go.RowKit

theorem info_string : (Tryd.prog.info? 9).map (fun i => (i.zero, i.size, i.bytes)) = some (some (.string ⟨#[]⟩), 1, 16) := by kernel_rfl
/-- v is a row of the call's own that holds these texts. -/
def Pcs (B : Nat) (w : World) (v : Value) (ps : List (List UInt8)) : Prop := ∃ a c, v = .slice a ps.length c ∧ w.ownsRow B 9 1 v ps.length (ps.map fun p => Value.string (bytesB p))
theorem Pcs.mono {B : Nat} {w w' : World} {v : Value} {ps : List (List UInt8)} (h : Pcs B w v ps) (hb : Below w.heap.size w w') : Pcs B w' v ps := by
  obtain ⟨a, c, rfl, h⟩ := h
  exact ⟨a, c, rfl, owns_mono h hb⟩
theorem extr (s : ByteArray) (f i : Nat) : s.extract f i = bytesB ((s.data.toList.take i).drop f) := by
  rw [← bytesB_of (s.extract f i)]
  congr 1
  rw [Lib.extract_data, List.drop_take]

end Go.Proofs.YteaijhmgfddjiaaDoor
