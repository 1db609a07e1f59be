/- The reference's reading of a list of numbers. Contract of ReadList. -/
import Derived.Test.YteaijhmgfddjiaaDoorPcs
import Derived.Test.YteaijhmgfddjiaaDoorNumS
import Derived.Test.YteaijhmgfddjiaaDoorStrEq
import Derived.Test.YteaijhmgfddjiaaDoorWithin
set_option linter.unusedSimpArgs false
set_option linter.unnecessarySimpa false
set_option linter.unusedVariables false
set_option maxRecDepth 100000
namespace Go.Proofs.YteaijhmgfddjiaaDoor
open Go.RowKit

theorem dash_no {s : ByteArray} (h : ¬ s = bytesB [45]) : (s.toList == [45]) = false := by
  have e := strEq s ⟨#[45]⟩
  rw [ByteArray.toList_eq (⟨#[45]⟩ : ByteArray)] at e
  rw [show ([45] : List UInt8) = (⟨#[45]⟩ : ByteArray).data.toList from rfl, e]
  exact decide_eq_false h
theorem dash_eq : bytesB [45] = (⟨#[45]⟩ : ByteArray) := rfl
/-- The numbers of the first k pieces. -/
def numsTo (ps : List (List UInt8)) (k : Nat) : List Int := (ps.take k).map numV
theorem numsTo_len (ps : List (List UInt8)) {k : Nat} (h : k ≤ ps.length) : (numsTo ps k).length = k := by unfold numsTo; rw [List.length_map, List.length_take, Nat.min_eq_left h]
theorem numsTo_step {ps : List (List UInt8)} {k : Nat} (h : k < ps.length) : numsTo ps (k + 1) = numsTo ps k ++ [numV ps[k]] := by unfold numsTo; rw [List.take_succ_eq_append_getElem h, List.map_append]; rfl
theorem numsTo_all (ps : List (List UInt8)) : numsTo ps ps.length = ps.map numV := by unfold numsTo; rw [List.take_length]

end Go.Proofs.YteaijhmgfddjiaaDoor
