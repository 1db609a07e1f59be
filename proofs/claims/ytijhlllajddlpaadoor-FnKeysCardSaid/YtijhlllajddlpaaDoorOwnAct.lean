/- Contracts of the copies of an action: slices.Clone of levers, copyAction, l24Own. -/
import Derived.Test.YtijhlllajddlpaaDoorApp
import Derived.Test.YtijhlllajddlpaaDoorOneAct
import Derived.Test.YtijhlllajddlpaaDoorTouch
set_option linter.unusedSimpArgs false
set_option linter.unnecessarySimpa false
set_option linter.unusedVariables false
set_option maxRecDepth 100000
namespace Go.Proofs.YtijhlllajddlpaaDoor
open Go.RowKit

theorem OwnAct.row {B E : Nat} {w : World} {x : ActD} {a lv b c : Value} (h : OwnAct B E w (.agg #[a, lv, b, c]) x) : OwnRow B E w 54 2 lv x.levs.length (x.levs.flatMap Lev.cells) := by
  obtain ⟨l, e, h⟩ := h
  simp only [Value.agg.injEq, Array.mk.injEq, List.cons.injEq, and_true] at e
  obtain ⟨_, rfl, _⟩ := e
  exact h
theorem Lev.one (xs : List Lev) : ∀ u ∈ xs.flatMap Lev.cells, u.oneCell' = true := by
  intro u hu
  obtain ⟨l, _, h⟩ := List.mem_flatMap.1 hu
  simp only [Lev.cells, List.mem_cons, List.not_mem_nil, or_false] at h
  rcases h with rfl | rfl <;> rfl

end Go.Proofs.YtijhlllajddlpaaDoor
