/- Contract of l00Rises. -/
import Derived.Test.YtadnejajbdipoaaWithin
import Derived.Deep.QuietTactic
import Derived.BigQuiet
set_option linter.unusedSimpArgs false
set_option linter.unnecessarySimpa false
set_option linter.unusedVariables false
namespace Go.Proofs.Ytadnejajbdipoaa
open Go.RowKit

/-- The number at k is within bounds and above the one before it. -/
def RiseAt (lo hi : Int) (xs : List Int) (k : Nat) : Prop := lo ≤ xs.getD k 0 ∧ xs.getD k 0 ≤ hi ∧ (k = 0 ∨ xs.getD (k - 1) 0 < xs.getD k 0)
def Rises (lo hi : Int) (xs : List Int) : Prop := ∀ k, k < xs.length → RiseAt lo hi xs k
instance (lo hi : Int) (xs : List Int) (k : Nat) : Decidable (RiseAt lo hi xs k) := by unfold RiseAt; infer_instance
instance (lo hi : Int) (xs : List Int) : Decidable (Rises lo hi xs) := by unfold Rises; infer_instance

theorem rises_step {lo hi : Int} {xs : List Int} {k : Nat} (h : ∀ i, i < k → RiseAt lo hi xs i) (hk : RiseAt lo hi xs k) : ∀ i, i < k + 1 → RiseAt lo hi xs i := fun i hi => by
  by_cases e : i = k
  · rw [e]; exact hk
  · exact h i (by omega)

end Go.Proofs.Ytadnejajbdipoaa
