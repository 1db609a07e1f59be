/- A written list, and one of it drawn; rows that a store does not reach. -/
import Derived.Test.YteaijhmgfddjiaaDoorBox
import Derived.Test.YteaijhmgfddjiaaDoorRegT
set_option linter.unusedSimpArgs false
set_option linter.unnecessarySimpa false
set_option linter.unusedVariables false
set_option maxRecDepth 100000
namespace Go.Proofs.YteaijhmgfddjiaaDoor
open Go.RowKit

theorem owns_ne {w : World} {base : Nat} {e : TypeId} {size n : Nat} {v : Value} {cs : List Value} (h : w.ownsRow base e size v n cs) {b o : Nat} (hb : ∀ q, v.ownBlock = some q → q ≠ b) (u : Value) : (w.setCell ⟨b, o, none⟩ u).ownsRow base e size v n cs := by
  refine ⟨h.1, ?_⟩
  rcases h.2 with h2 | ⟨g, cap, cur, rfl, x1, x2, x3⟩
  · exact .inl h2
  · have hg : g ≠ b := hb g rfl
    exact .inr ⟨g, cap, cur, rfl, x1, (Below.heap_setCell _ _ _ _ (by simpa using hg)).trans x2, x3⟩

end Go.Proofs.YteaijhmgfddjiaaDoor
