/- Texts compared. -/
import Derived.Test.YteaijhmgfddjiaaDoorShelf
set_option linter.unusedSimpArgs false
namespace Go.Proofs.YteaijhmgfddjiaaDoor
open Go.RowKit
theorem strEq_inj {a b : ByteArray} (h : a.toList = b.toList) : a = b := by
  rw [ByteArray.toList_eq, ByteArray.toList_eq] at h
  cases a; cases b; simp only at h
  congr 1
  exact Array.toList_inj.1 h
theorem strEq (a b : ByteArray) : (a.toList == b.toList) = decide (a = b) := by
  by_cases h : a = b
  · subst h; simp
  · have : a.toList ≠ b.toList := fun e => h (strEq_inj e)
    simp [h, this]
end Go.Proofs.YteaijhmgfddjiaaDoor
