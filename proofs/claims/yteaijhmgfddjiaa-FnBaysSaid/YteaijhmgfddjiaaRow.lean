/- Contracts of l27Row and ValidRow of both packages. -/
import Derived.Test.YteaijhmgfddjiaaHas
import Derived.Test.YteaijhmgfddjiaaClI
import Derived.Test.YteaijhmgfddjiaaSortI
import Derived.Test.YteaijhmgfddjiaaRowL
set_option linter.unusedSimpArgs false
set_option linter.unnecessarySimpa false
set_option linter.unusedVariables false
set_option maxRecDepth 100000
namespace Go.Proofs.Yteaijhmgfddjiaa
open Go.RowKit

theorem ints_take {w : World} {a : Option Addr} {ca : Nat} {xs : List Int} (h : Ints w (.slice a xs.length ca) xs) {k : Nat} (hk : k ≤ xs.length) : Ints w (.slice a k ca) (xs.take k) := by
  obtain ⟨a', c', e, h1, h2, h3⟩ := h
  simp only [Value.slice.injEq] at e
  obtain ⟨rfl, _, rfl⟩ := e
  refine ⟨_, _, by rw [List.length_take, Nat.min_eq_left hk], by rw [List.length_take]; omega, h2, fun j u hu => h3 j u ?_⟩
  rw [List.map_take, List.getElem?_take] at hu
  split at hu
  · exact hu
  · cases hu

end Go.Proofs.Yteaijhmgfddjiaa
