/- Words and contracts of the laws' helpers over a slice of actions: size, copy, equality. -/
import Derived.Test.YtijhlllajddlpaaApp
import Derived.Test.YtijhlllajddlpaaOneAct
import Derived.Test.YtijhlllajddlpaaTouch
set_option linter.unusedSimpArgs false
set_option linter.unnecessarySimpa false
set_option linter.unusedVariables false
set_option maxRecDepth 100000
namespace Go.Proofs.Ytijhlllajddlpaa
open Go.RowKit

/-- An action as it lies in a row: its levers' slice value beside what it reads as. -/
def actCells (y : Value × ActD) : List Value := [.int .i64 y.2.note, y.1, .int .i64 y.2.slack, .int .i64 y.2.weight]
def RdActs (w : World) (v : Value) (xs : List ActD) : Prop := ∃ ys : List (Value × ActD), ys.map Prod.snd = xs ∧ Sl w v ys.length (ys.flatMap actCells) ∧ ∀ y ∈ ys, Levs w y.1 y.2.levs
def okActs (xs : List ActD) : Prop := ∀ x ∈ xs, x.ok

section
variable {w w' : World} {v : Value} {xs : List ActD}
theorem RdActs.mono (h : RdActs w v xs) (hb : Below w.heap.size w w') : RdActs w' v xs := by
  obtain ⟨ys, e, h1, h2⟩ := h
  exact ⟨ys, e, h1.mono hb, fun y hy => (h2 y hy).mono hb⟩
theorem RdActs.form' (h : RdActs w v xs) : ∃ a cap, v = .slice a xs.length cap ∧ xs.length ≤ maxLen := by
  obtain ⟨ys, rfl, ⟨a, cap, rfl, h1, h2, _⟩, _⟩ := h
  exact ⟨a, cap, by simp, by simp; omega⟩
theorem RdActs.form (h : RdActs w v xs) : ∃ a cap, v = .slice a xs.length cap := by
  obtain ⟨a, cap, e, _⟩ := h.form'
  exact ⟨a, cap, e⟩
theorem RdActs.at {a : Option Addr} {cap k : Nat} (h : RdActs w (.slice a xs.length cap) xs) (hk : k < xs.length) :
    ∃ b off lv, a = some ⟨b, off, none⟩ ∧ b < w.heap.size ∧ ActIn w b (off + k * 4) lv xs[k] := by
  obtain ⟨ys, rfl, h1, h2⟩ := h
  have hk' : k < ys.length := by simpa using hk
  have hl : (ys.flatMap actCells).length = ys.length * 4 := flat_len (f := actCells) (fun _ => rfl) ys
  rw [List.length_map] at h1
  obtain ⟨b, off, rfl, hc⟩ := Sl.cells h1 (by rw [hl]; omega)
  have g (j : Nat) (hj : j < 4) (u : Value) (hu : (actCells ys[k])[j]? = some u) := hc (k * 4 + j) u (flat_at (f := actCells) (m := 4) (fun _ => rfl) ys k j hk' hj hu)
  have h0 := g 0 (by omega) (.int .i64 ys[k].2.note) rfl
  have h3 := g 1 (by omega) ys[k].1 rfl
  have h4 := g 2 (by omega) (.int .i64 ys[k].2.slack) rfl
  have h5 := g 3 (by omega) (.int .i64 ys[k].2.weight) rfl
  refine ⟨b, off, ys[k].1, rfl, World.block_lt_of_cell? w _ h0, ?_, ?_, ?_, ?_, ?_⟩
  · simpa using h0
  · simpa [Nat.add_assoc] using h3
  · simpa [Nat.add_assoc] using h4
  · simpa [Nat.add_assoc] using h5
  · simpa using h2 ys[k] (List.getElem_mem hk')
theorem RdActs.at' {a : Option Addr} {cap k : Nat} (h : RdActs w (.slice a xs.length cap) xs) (hk : k < xs.length) :
    ∃ b off lv ca, a = some ⟨b, off, none⟩ ∧ b < w.heap.size ∧ ActIn w b (off + k * 4) (.slice lv xs[k].levs.length ca) xs[k] := by
  obtain ⟨b, off, lv, e, hb, h⟩ := h.at hk
  obtain ⟨a1, ca, rfl, _⟩ := id h.levs
  exact ⟨b, off, a1, ca, e, hb, h⟩
end

theorem ActIn.acc {w : World} {b off : Nat} {lv : Value} {x : ActD} (h : ActIn w b off lv x) : Acc w (.agg #[.int .i64 x.note, lv, .int .i64 x.slack, .int .i64 x.weight]) lv x := ⟨rfl, h.levs⟩

/-- How many levers the first k actions have. -/
def levSum (xs : List ActD) : Nat → Nat
  | 0 => 0
  | k + 1 => levSum xs k + (xs[k]?.map fun x => x.levs.length).getD 0
theorem levSum_step {xs : List ActD} {k : Nat} (h : k < xs.length) : levSum xs (k + 1) = levSum xs k + xs[k].levs.length := by simp [levSum, h]
theorem levSum_mono (xs : List ActD) (k j : Nat) : levSum xs k ≤ levSum xs (k + j) := by
  induction j with
  | zero => exact Nat.le_refl _
  | succ j ih => exact Nat.le_trans ih (by rw [← Nat.add_assoc]; simp [levSum])
theorem levSum_le {xs : List ActD} {k : Nat} (h : k ≤ xs.length) : levSum xs k ≤ levSum xs xs.length := by
  have := levSum_mono xs k (xs.length - k)
  rwa [show k + (xs.length - k) = xs.length by omega] at this
/-- The size of actions, as the laws count it. -/
def szActs (xs : List ActD) : Nat := xs.length + levSum xs xs.length
theorem szActs_at {xs : List ActD} {k : Nat} (h : k < xs.length) : xs[k].levs.length ≤ szActs xs := by
  have := levSum_le (xs := xs) (k := k + 1) (by omega)
  rw [levSum_step h] at this
  unfold szActs; omega
theorem szActs_len (xs : List ActD) : xs.length ≤ szActs xs := by unfold szActs; omega

end Go.Proofs.Ytijhlllajddlpaa
