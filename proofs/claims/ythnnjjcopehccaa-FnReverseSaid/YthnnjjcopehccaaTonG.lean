/- Small laws on rows of tones and on worlds that draw. -/
import Derived.Test.YthnnjjcopehccaaTonRow
set_option linter.unusedSimpArgs false
set_option linter.unnecessarySimpa false
set_option linter.unusedVariables false
set_option maxRecDepth 100000
namespace Go.Proofs.Ythnnjjcopehccaa
open Go.RowKit

theorem Ton.one (xs : List Ton) : ∀ u ∈ xs.flatMap Ton.cells, u.oneCell' = true := by
  intro u hu
  obtain ⟨l, _, h⟩ := List.mem_flatMap.1 hu
  simp only [Ton.cells, List.mem_cons, List.not_mem_nil, or_false] at h
  rcases h with rfl | rfl | rfl <;> rfl

theorem owns_drew {w : World} {base : Nat} {e : TypeId} {size n : Nat} {v : Value} {cs : List Value} (h : w.ownsRow base e size v n cs) : w.drew.ownsRow base e size v n cs := h
theorem grown_setD {a w : World} {g : Nat} (h : a.grownBy w (some g)) (o : Nat) (u : Value) : a.grownBy (w.setCell ⟨g, o, none⟩ u) (some g) :=
  ⟨h.os, h.tape, h.output, by have := h.size; simpa [World.setCell] using this, fun k hk hne => (Below.heap_setCell _ _ _ _ (by intro e; apply hne; simp only at e; rw [e])).trans (h.block k hk hne)⟩
/-- A result that is an action and a code. -/
theorem grown_rowD {w w' : World} {row : Option Nat} (h : Below w.heap.size w.drew w') : w.drew.grownBy w' row := ⟨h.os, h.tape, h.output, h.size, fun k hk _ => h.block k hk⟩
theorem below_2drew {b : Nat} {w w' : World} {o : Obj} (hb : Below b (w.alloc o).drew w') (h : w.heap.size = b) : Below w.heap.size w.drew w' := ⟨hb.os, hb.tape, hb.output, by have := hb.size; simp at this ⊢; exact Nat.le_trans (Nat.le_succ _) this, fun k hk => (hb.block k (by omega)).trans ((belowA w o).block k hk)⟩

end Go.Proofs.Ythnnjjcopehccaa
