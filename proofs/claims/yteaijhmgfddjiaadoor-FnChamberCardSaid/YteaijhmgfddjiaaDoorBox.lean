/- A block that holds the cells cs, none frozen: facts carried in one word. No program in sight. -/
import Derived.Test.YteaijhmgfddjiaaDoorSrc
set_option linter.unusedSimpArgs false
set_option linter.unnecessarySimpa false
set_option linter.unusedVariables false
namespace Go.Proofs.YteaijhmgfddjiaaDoor
open Go.RowKit

structure Box (w : World) (q : Nat) (cs : List Value) : Prop where
  lt : q < w.heap.size
  at' : ∀ j u, cs[j]? = some u → w.cell? ⟨q, j, none⟩ = some u
  fr : ∀ j, w.frozen? ⟨q, j, none⟩ = false
theorem Box.touch {w w' : World} {q B E : Nat} {cs : List Value} (h : Box w q cs) (t : Touch B E w w') (hq : q < B ∨ E ≤ q) : Box w' q cs :=
  ⟨Nat.lt_of_lt_of_le h.lt t.size, fun j u hu => cellT t (h.at' j u hu) hq, fun j => froz_touch t h.lt hq (h.fr j)⟩
theorem Box.step {w w' : World} {q K : Nat} {cs : List Value} (h : Box w q cs) (t : Below K w w') (hq : q < K) : Box w' q cs :=
  ⟨Nat.lt_of_lt_of_le h.lt t.size, fun j u hu => cellL t hq (h.at' j u hu), fun j => frozenL t hq (h.fr j)⟩
theorem Box.mono {w w' : World} {q : Nat} {cs : List Value} (h : Box w q cs) (t : Below w.heap.size w w') : Box w' q cs := h.step t h.lt
theorem Box.alloc (w : World) (cs : List Value) (e : TypeId) (q : Nat) (hq : w.heap.size = q) : Box (w.alloc (.cells cs.toArray e)) q cs := by
  subst hq
  refine ⟨by simp, fun j u hu => ?_, fun j => by simp [go_sem]⟩
  rw [cell_of_row _ w.heap.size j cs.toArray e (0, 0) (heap_alloc_new w _)]
  simpa using hu
theorem Box.set {w : World} {q j : Nat} {cs : List Value} (h : Box w q cs) (u : Value) (hj : j < cs.length) : Box (w.setCell ⟨q, j, none⟩ u) q (cs.set j u) := by
  obtain ⟨lt, at', fr⟩ := h
  have c0 := at' j cs[j] (by simp [hj])
  have f0 := fr j
  refine ⟨by simpa [World.setCell] using lt, fun i v hv => ?_, fun i => ?_⟩
  · by_cases e : i = j
    · subst e
      rw [List.getElem?_set_self hj] at hv
      cases hv
      simp [go_sem, c0, f0, lt]
    · rw [List.getElem?_set_ne (fun e' => e e'.symm)] at hv
      have := at' i v hv
      simp [go_sem, this, c0, f0, lt, e]
  · have := fr i
    simp [go_sem, lt, f0, this]

end Go.Proofs.YteaijhmgfddjiaaDoor
