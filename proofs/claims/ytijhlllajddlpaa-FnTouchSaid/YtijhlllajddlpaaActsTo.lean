/- The laws' copy of a slice of actions: memory of its own, row by row. -/
import Derived.Test.YtijhlllajddlpaaActs
set_option linter.unusedSimpArgs false
set_option linter.unnecessarySimpa false
set_option linter.unusedVariables false
set_option maxRecDepth 100000
namespace Go.Proofs.Ytijhlllajddlpaa
open Go.RowKit

/-- Two slices that do not lie in one block of their own. -/
def apart (a b : Value) : Prop := a.ownBlock = none ∨ a.ownBlock ≠ b.ownBlock
theorem apart.symm {a b : Value} (h : apart a b) : apart b a := by
  rcases h with h | h
  · cases hb : b.ownBlock with
    | none => exact .inl hb
    | some k => exact .inr (by rw [hb, h]; simp)
  · exact .inr fun e => h e.symm
/-- v owns actions: its row and each one's levers, in blocks from B to E, all apart. -/
def OwnActs (B E : Nat) (w : World) (v : Value) (xs : List ActD) : Prop := ∃ ys : List (Value × ActD), ys.map Prod.snd = xs ∧ OwnRow B E w 30 4 v ys.length (ys.flatMap actCells) ∧
  (∀ y ∈ ys, OwnRow B E w 51 2 y.1 y.2.levs.length (y.2.levs.flatMap Lev.cells)) ∧ (∀ y ∈ ys, apart v y.1) ∧ (ys.map Prod.fst).Pairwise apart
section
variable {B E B' E' : Nat} {w w' : World} {v : Value} {x : List ActD}
theorem OwnActs.mono (h : OwnActs B E w v x) (hb : Below w.heap.size w w') : OwnActs B E w' v x := by
  obtain ⟨ys, e, h1, h2, h3⟩ := h
  exact ⟨ys, e, h1.mono hb, fun y hy => (h2 y hy).mono hb, h3⟩
theorem OwnActs.touch (h : OwnActs B E w v x) (t : Touch B' E' w w') (hd : E ≤ B' ∨ E' ≤ B) : OwnActs B E w' v x := by
  obtain ⟨ys, e, h1, h2, h3⟩ := h
  exact ⟨ys, e, h1.touch t hd, fun y hy => (h2 y hy).touch t hd, h3⟩
theorem OwnActs.wide (h : OwnActs B E w v x) (hB : B' ≤ B) (hE : E ≤ E') : OwnActs B' E' w v x := by
  obtain ⟨ys, e, h1, h2, h3⟩ := h
  exact ⟨ys, e, h1.wide hB hE, fun y hy => (h2 y hy).wide hB hE, h3⟩
theorem OwnActs.rd (h : OwnActs B E w v x) : RdActs w v x := by
  obtain ⟨ys, e, h1, h2, h3⟩ := h
  exact ⟨ys, e, h1.sl, fun y hy => (h2 y hy).sl⟩
theorem OwnActs.form (h : OwnActs B E w v x) : ∃ a cap, v = .slice a x.length cap := h.rd.form
end

theorem info_Action : (Try.prog.info? 30).map (fun i => (i.zero, i.size, i.bytes)) = some (some (.agg #[.int .i64 0, .slice none 0 0, .int .i64 0, .int .i64 0]), 4, 48) := by kernel_rfl

def zs4 (n : Nat) : List Value := (List.replicate n [Value.int .i64 0, .slice none 0 0, .int .i64 0, .int .i64 0]).flatten
theorem zs4_succ (n : Nat) : zs4 (n + 1) = .int .i64 0 :: .slice none 0 0 :: .int .i64 0 :: .int .i64 0 :: zs4 n := by simp [zs4, List.replicate_succ]
theorem zs4_len (n : Nat) : (zs4 n).length = n * 4 := by
  induction n with
  | zero => rfl
  | succ n ih => rw [zs4_succ]; simp [ih]; omega
theorem act_len (ys : List (Value × ActD)) : (ys.flatMap actCells).length = ys.length * 4 := flat_len (f := actCells) (fun _ => rfl) ys
theorem stored4 {w : World} {base : Nat} {e : TypeId} {size g n cap : Nat} {A R : List Value} {z0 z1 z2 z3 : Value} {j : Nat} (h : w.ownsRow base e size (.slice (some ⟨g, 0, none⟩) n cap) n (A ++ z0 :: z1 :: z2 :: z3 :: R)) (hA : A.length = j) (a b c d : Value) :
    ((((w.setCell ⟨g, j, none⟩ a).setCell ⟨g, j + 1, none⟩ b).setCell ⟨g, j + 2, none⟩ c).setCell ⟨g, j + 3, none⟩ d).ownsRow base e size (.slice (some ⟨g, 0, none⟩) n cap) n (A ++ a :: b :: c :: d :: R) ∧ w.grownBy ((((w.setCell ⟨g, j, none⟩ a).setCell ⟨g, j + 1, none⟩ b).setCell ⟨g, j + 2, none⟩ c).setCell ⟨g, j + 3, none⟩ d) (some g) := by
  have h1 := stored3 h hA a b c
  have h2 := stored1 (A := A ++ [a, b, c]) (z := z3) (R := R) (j := j + 3) (by simpa using h1.1) (by simp [hA]) d
  exact ⟨by simpa using h2.1, grown_trans h1.2 h2.2⟩

theorem made_acts (n : Nat) : (madeCells #[.int .i64 0, .slice none 0 0, .int .i64 0, .int .i64 0] (n * 4)).toList = zs4 n := by
  have key : ∀ n, (List.range (n * 4)).map (fun i => (#[Value.int .i64 0, .slice none 0 0, .int .i64 0, .int .i64 0] : Array Value)[i % 4]!) = zs4 n := by
    intro n
    induction n with
    | zero => rfl
    | succ n ih =>
      rw [show (n + 1) * 4 = 4 + n * 4 by omega, List.range_add, List.map_append, List.map_map, zs4_succ, ← ih]
      have : (fun i => (#[Value.int .i64 0, .slice none 0 0, .int .i64 0, .int .i64 0] : Array Value)[i % 4]!) ∘ (4 + ·) = fun i => (#[Value.int .i64 0, .slice none 0 0, .int .i64 0, .int .i64 0] : Array Value)[i % 4]! := by
        funext i; simp [Nat.add_mod_left]
      rw [this]; rfl
  rw [← key n]
  simp [madeCells]

end Go.Proofs.Ytijhlllajddlpaa
