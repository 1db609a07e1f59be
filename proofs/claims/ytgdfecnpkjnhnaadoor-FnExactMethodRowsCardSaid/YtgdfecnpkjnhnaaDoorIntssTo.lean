/- The laws' copy of a slice of slices of numbers: memory of its own, row by row. -/
import Derived.Test.YtgdfecnpkjnhnaaDoorIntss
set_option linter.unusedSimpArgs false
set_option linter.unnecessarySimpa false
set_option linter.unusedVariables false
set_option maxRecDepth 100000
namespace Go.Proofs.YtgdfecnpkjnhnaaDoor
open Go.RowKit

/-- Two slices that do not lie in one block of their own. -/
def apart (a b : Value) : Prop := a.ownBlock = none ∨ a.ownBlock ≠ b.ownBlock
theorem apart.symm {a b : Value} (h : apart a b) : apart b a := by
  rcases h with h | h
  · cases hb : b.ownBlock with
    | none => exact .inl hb
    | some k => exact .inr (by rw [hb, h]; simp)
  · exact .inr fun e => h e.symm
/-- v owns rows of numbers: its row and each one's, in blocks from B to E, all apart. -/
def OwnIntss (B E : Nat) (w : World) (v : Value) (xs : List (List Int)) : Prop := ∃ ys : List (Value × List Int), ys.map Prod.snd = xs ∧ OwnRow B E w 63 1 v ys.length (ys.map Prod.fst) ∧
  (∀ y ∈ ys, OwnRow B E w 2 1 y.1 y.2.length (y.2.map (Value.int .i64))) ∧ (∀ y ∈ ys, apart v y.1) ∧ (ys.map Prod.fst).Pairwise apart
section
variable {B E B' E' : Nat} {w w' : World} {v : Value} {x : List (List Int)}
theorem OwnIntss.mono (h : OwnIntss B E w v x) (hb : Below w.heap.size w w') : OwnIntss B E w' v x := by
  obtain ⟨ys, e, h1, h2, h3⟩ := h
  exact ⟨ys, e, h1.mono hb, fun y hy => (h2 y hy).mono hb, h3⟩
theorem OwnIntss.touch (h : OwnIntss B E w v x) (t : Touch B' E' w w') (hd : E ≤ B' ∨ E' ≤ B) : OwnIntss B E w' v x := by
  obtain ⟨ys, e, h1, h2, h3⟩ := h
  exact ⟨ys, e, h1.touch t hd, fun y hy => (h2 y hy).touch t hd, h3⟩
theorem OwnIntss.wide (h : OwnIntss B E w v x) (hB : B' ≤ B) (hE : E ≤ E') : OwnIntss B' E' w v x := by
  obtain ⟨ys, e, h1, h2, h3⟩ := h
  exact ⟨ys, e, h1.wide hB hE, fun y hy => (h2 y hy).wide hB hE, h3⟩
theorem OwnIntss.rd (h : OwnIntss B E w v x) : RdIntss w v x := by
  obtain ⟨ys, e, h1, h2, h3⟩ := h
  exact ⟨ys, e, h1.sl, fun y hy => (h2 y hy).sl⟩
theorem OwnIntss.form (h : OwnIntss B E w v x) : ∃ a cap, v = .slice a x.length cap := h.rd.form
end

theorem info_ints : (Tryd.prog.info? 63).map (fun i => (i.zero, i.size, i.bytes)) = some (some (.slice none 0 0), 1, 24) := by kernel_rfl

end Go.Proofs.YtgdfecnpkjnhnaaDoor
