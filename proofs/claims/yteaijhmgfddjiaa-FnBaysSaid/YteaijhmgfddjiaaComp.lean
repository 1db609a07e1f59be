/- Contracts of compose and of ComposeRows of both packages. -/
import Derived.Test.YteaijhmgfddjiaaRow
set_option linter.unusedSimpArgs false
set_option linter.unnecessarySimpa false
set_option linter.unusedVariables false
set_option maxRecDepth 100000
namespace Go.Proofs.Yteaijhmgfddjiaa
open Go.RowKit

theorem cp_yes {a b : List Int} (ha : RowOk a) (hb : RowOk b) (h : a.length = b.length) : compV a b = comp a b ∧ compC a b = 0 := by unfold compV compC; rw [if_pos ha, if_pos ha, if_pos hb, if_pos hb, if_pos h, if_pos h]; exact ⟨rfl, rfl⟩
theorem cp_len {a b : List Int} (ha : RowOk a) (hb : RowOk b) (h : ¬ a.length = b.length) : compV a b = [] ∧ compC a b = 7 := by unfold compV compC; rw [if_pos ha, if_pos ha, if_pos hb, if_pos hb, if_neg h, if_neg h]; exact ⟨rfl, rfl⟩
theorem cp_b {a b : List Int} (ha : RowOk a) (hb : ¬ RowOk b) : compV a b = [] ∧ compC a b = 1 := by unfold compV compC; rw [if_pos ha, if_pos ha, if_neg hb, if_neg hb]; exact ⟨rfl, rfl⟩
theorem cp_a {a b : List Int} (ha : ¬ RowOk a) : compV a b = [] ∧ compC a b = 1 := by unfold compV compC; rw [if_neg ha, if_neg ha]; exact ⟨rfl, rfl⟩
theorem rowB_yes {xs : List Int} (h : RowOk xs) : rowB xs = true := rowB_iff.2 h
theorem rowB_no {xs : List Int} (h : ¬ RowOk xs) : rowB xs = false := by rw [← Bool.not_eq_true, rowB_iff]; exact h

end Go.Proofs.Yteaijhmgfddjiaa
