/- Words for the laws' own walks: memory in a range of blocks, what a mark touches. No program in sight. -/
import Derived.Test.YteaijhmgfddjiaaDoorRegion
set_option linter.unusedSimpArgs false
set_option linter.unnecessarySimpa false
set_option linter.unusedVariables false
namespace Go.Proofs.YteaijhmgfddjiaaDoor
open Go.RowKit

/-- Of what was there, blocks from B to E alone may have been written. -/
structure Touch (B E : Nat) (w w' : World) : Prop where
  os : w'.os = w.os
  tape : w'.tape = w.tape
  output : w'.output = w.output
  size : w.heap.size ≤ w'.heap.size
  block : ∀ k, k < w.heap.size → (k < B ∨ E ≤ k) → w'.heap[k]? = w.heap[k]?

theorem Touch.of_grown {B E : Nat} {w w' : World} {row : Option Nat} (h : w.grownBy w' row) (hr : ∀ k, row = some k → B ≤ k ∧ k < E) : Touch B E w w' :=
  ⟨h.os, h.tape, h.output, h.size, fun k hk hne => h.block k hk (fun e => by have := hr k e.symm; omega)⟩
theorem Touch.below {B E : Nat} {w w' : World} {W : World} {b : Nat} (t : Touch B E w w') (h : Below b W w) (hb : b ≤ B) (hW : b ≤ w.heap.size) : Below b W w' :=
  h.trans ⟨t.os, t.tape, t.output, t.size, fun k hk => t.block k (by omega) (.inl (by omega))⟩

theorem cellB {w w' : World} {p : Addr} {v : Value} (hb : Below w.heap.size w w') (h : w.cell? p = some v) : w'.cell? p = some v := (hb.cell (World.block_lt_of_cell? w _ h)).trans h
theorem cellT {B E : Nat} {w w' : World} {p : Addr} {v : Value} (t : Touch B E w w') (h : w.cell? p = some v) (hp : p.block < B ∨ E ≤ p.block) : w'.cell? p = some v :=
  (World.cell?_of_block (w := w) (t.block _ (World.block_lt_of_cell? w _ h) hp)).trans h
theorem belowA (w : World) (o : Obj) : Below w.heap.size w (w.alloc o) := (Below.refl _ _).alloc (Nat.le_refl _) _

/-- v owns the cells cs, in blocks from B to E. -/
def OwnRow (B E : Nat) (w : World) (e : TypeId) (size : Nat) (v : Value) (n : Nat) (cs : List Value) : Prop :=
  w.ownsRow B e size v n cs ∧ ∀ k, v.ownBlock = some k → k < E

section
variable {B E B' E' : Nat} {w w' : World} {e : TypeId} {size n : Nat} {v : Value} {cs : List Value}
theorem OwnRow.mk' (h : w.ownsRow B e size v n cs) : OwnRow B w.heap.size w e size v n cs := ⟨h, fun k hk => (h.lt k hk).2⟩
theorem OwnRow.mono (h : OwnRow B E w e size v n cs) (hb : Below w.heap.size w w') : OwnRow B E w' e size v n cs := ⟨owns_mono h.1 hb, h.2⟩
theorem OwnRow.touch (h : OwnRow B E w e size v n cs) (t : Touch B' E' w w') (hd : E ≤ B' ∨ E' ≤ B) : OwnRow B E w' e size v n cs := by
  refine ⟨⟨h.1.1, ?_⟩, h.2⟩
  rcases h.1.2 with h2 | ⟨g, cap, cur, rfl, b, c, d⟩
  · exact .inl h2
  · have hg := h.2 g rfl
    exact .inr ⟨g, cap, cur, rfl, b, (t.block g (Array.getElem?_eq_some_iff.1 c).1 (by omega)).trans c, d⟩
theorem OwnRow.form (h : OwnRow B E w e size v n cs) : ∃ a cap, v = .slice a n cap := owns_slice h.1
theorem OwnRow.sl (h : OwnRow B E w e size v n cs) : Sl w v n cs := Sl.of_owns h.1
theorem OwnRow.wide (h : OwnRow B E w e size v n cs) (hB : B' ≤ B) (hE : E ≤ E') : OwnRow B' E' w e size v n cs := ⟨owns_base h.1 hB, fun k hk => Nat.lt_of_lt_of_le (h.2 k hk) hE⟩
end

/-- The numbers k, k + 1 .., n of them. -/
def marksI (k : Int) (n : Nat) : List Value := (List.range n).map fun (i : Nat) => .int .i64 (k + i)
theorem marksI_nat (k n : Nat) : marksI k n = marks k n := by
  unfold marksI marks; apply List.map_congr_left; intro i _; rw [Int.natCast_add]

end Go.Proofs.YteaijhmgfddjiaaDoor
