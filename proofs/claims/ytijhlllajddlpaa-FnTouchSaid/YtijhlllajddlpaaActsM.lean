/- The laws' marks on a slice of actions. -/
import Derived.Test.YtijhlllajddlpaaActsTo
set_option linter.unusedSimpArgs false
set_option linter.unnecessarySimpa false
set_option linter.unusedVariables false
set_option maxRecDepth 100000
namespace Go.Proofs.Ytijhlllajddlpaa
open Go.RowKit

/-- Levers that bear the numbers from k on. -/
def mkLevs (k : Nat) (n : Nat) : List Lev := (List.range n).map fun i => ⟨↑(k + i * 2), ↑(k + i * 2 + 1)⟩
theorem mkLevs_len (k n : Nat) : (mkLevs k n).length = n := by simp [mkLevs]
theorem mkLevs_cells (k : Nat) : ∀ n, (mkLevs k n).flatMap Lev.cells = marks k (n * 2)
  | 0 => rfl
  | n + 1 => by
    rw [show (n + 1) * 2 = n * 2 + 1 + 1 by omega, marks_succ, marks_succ, ← mkLevs_cells k n]
    simp [mkLevs, List.range_succ, Lev.cells, Nat.add_assoc]
def mkAct (k : Nat) (x : ActD) : ActD := ⟨↑k, mkLevs (k + 1) x.levs.length, ↑(k + 1 + x.levs.length * 2), ↑(k + 1 + x.levs.length * 2 + 1)⟩
/-- How many numbers the first j actions have. -/
def numSum (xs : List ActD) (j : Nat) : Nat := j * 3 + levSum xs j * 2
def sizeActs (xs : List ActD) : Nat := numSum xs xs.length
def mkActs (k : Nat) (xs : List ActD) : List ActD := (List.range xs.length).map fun j => match xs[j]? with | some x => mkAct (k + numSum xs j) x | none => ⟨0, [], 0, 0⟩
theorem mkActs_len (k : Nat) (xs : List ActD) : (mkActs k xs).length = xs.length := by simp [mkActs]
theorem mkActs_at (k : Nat) (xs : List ActD) {j : Nat} (h : j < xs.length) : (mkActs k xs)[j]'(by rw [mkActs_len]; exact h) = mkAct (k + numSum xs j) xs[j] := by simp [mkActs, h]
theorem numSum_step {xs : List ActD} {j : Nat} (h : j < xs.length) : numSum xs (j + 1) = numSum xs j + 3 + xs[j].levs.length * 2 := by unfold numSum; rw [levSum_step h]; omega
theorem numSum_le {xs : List ActD} {j : Nat} (h : j ≤ xs.length) : numSum xs j ≤ sizeActs xs := by have := levSum_le h; unfold sizeActs numSum; omega
theorem sizeActs_le (xs : List ActD) : sizeActs xs ≤ 3 * szActs xs := by unfold sizeActs numSum szActs; omega
theorem sizeActs_bd {xs : List ActD} (h : szActs xs ≤ 1048576) : sizeActs xs ≤ 3145728 := by have := sizeActs_le xs; omega

theorem OwnRow.far {B E : Nat} {w w' : World} {e : TypeId} {size n : Nat} {u : Value} {cs : List Value} (h : OwnRow B E w e size u n cs) {b : Option Nat} (hg : w.grownBy w' b) (hb : b = none ∨ b ≠ u.ownBlock) : OwnRow B E w' e size u n cs := by
  refine ⟨⟨h.1.1, ?_⟩, h.2⟩
  rcases h.1.2 with h2 | ⟨g, cap, cur, rfl, b', c, d⟩
  · exact .inl h2
  · refine .inr ⟨g, cap, cur, rfl, b', (hg.block g (Array.getElem?_eq_some_iff.1 c).1 ?_).trans c, d⟩
    rcases hb with hb | hb
    · rw [hb]; simp
    · exact fun e => hb e.symm

/-- Actions that lie apart, and what is stored at one of them. -/
def ActsSt (B E : Nat) (w : World) (v : Value) (ys : List (Value × ActD)) : Prop := OwnRow B E w 30 4 v ys.length (ys.flatMap actCells) ∧
  (∀ y ∈ ys, OwnRow B E w 51 2 y.1 y.2.levs.length (y.2.levs.flatMap Lev.cells)) ∧ (∀ y ∈ ys, apart v y.1) ∧ (ys.map Prod.fst).Pairwise apart
theorem OwnActs.st {B E : Nat} {w : World} {v : Value} {xs : List ActD} : OwnActs B E w v xs ↔ ∃ ys : List (Value × ActD), ys.map Prod.snd = xs ∧ ActsSt B E w v ys := Iff.rfl

theorem pair_apart {ys : List (Value × ActD)} (h : (ys.map Prod.fst).Pairwise apart) {i j : Nat} (hi : i < ys.length) (hj : j < ys.length) (hne : i ≠ j) : apart ys[i].1 ys[j].1 := by
  have h' := List.pairwise_iff_getElem.1 h
  rcases Nat.lt_or_gt_of_ne hne with hl | hl
  · have := h' i j (by simpa using hi) (by simpa using hj) hl
    rwa [List.getElem_map, List.getElem_map] at this
  · have := h' j i (by simpa using hj) (by simpa using hi) hl
    rw [List.getElem_map, List.getElem_map] at this
    exact this.symm

theorem set_flat (ys : List (Value × ActD)) (i : Nat) (hi : i < ys.length) (z : Value × ActD) : (ys.set i z).flatMap actCells = (ys.take i).flatMap actCells ++ (actCells z ++ (ys.drop (i + 1)).flatMap actCells) := by
  rw [List.set_eq_take_append_cons_drop, if_pos hi, List.flatMap_append, List.flatMap_cons]
theorem cut_flat (ys : List (Value × ActD)) (i : Nat) (hi : i < ys.length) : ys.flatMap actCells = (ys.take i).flatMap actCells ++ (actCells ys[i] ++ (ys.drop (i + 1)).flatMap actCells) := by
  have := set_flat ys i hi ys[i]
  rwa [List.set_getElem_self] at this
theorem take_flat_len (ys : List (Value × ActD)) (i : Nat) (hi : i ≤ ys.length) : ((ys.take i).flatMap actCells).length = i * 4 := by rw [act_len, List.length_take, Nat.min_eq_left hi]

/-- The three stores and the levers' marks of one round. -/
theorem mark_round {B E : Nat} {w w2 : World} {g cap : Nat} {ys : List (Value × ActD)} {n i k : Nat} (hn : n = ys.length) (h : ActsSt B E w (.slice (some ⟨g, 0, none⟩) n cap) ys) (hi : i < ys.length)
    (ho : w2.ownsRow B 51 2 ys[i].1 ys[i].2.levs.length (marks (k + 1) (ys[i].2.levs.length * 2))) (hg : (w.setCell ⟨g, i * 4, none⟩ (.int .i64 ↑k)).grownBy w2 ys[i].1.ownBlock) :
    ActsSt B E ((w2.setCell ⟨g, i * 4 + 2, none⟩ (.int .i64 ↑(k + 1 + ys[i].2.levs.length * 2))).setCell ⟨g, i * 4 + 3, none⟩ (.int .i64 ↑(k + 1 + ys[i].2.levs.length * 2 + 1))) (.slice (some ⟨g, 0, none⟩) n cap) (ys.set i (ys[i].1, mkAct k ys[i].2)) ∧
      Touch B E w ((w2.setCell ⟨g, i * 4 + 2, none⟩ (.int .i64 ↑(k + 1 + ys[i].2.levs.length * 2))).setCell ⟨g, i * 4 + 3, none⟩ (.int .i64 ↑(k + 1 + ys[i].2.levs.length * 2 + 1))) := by
  subst hn
  obtain ⟨h1, h2, h3, h4⟩ := h
  have hal := take_flat_len ys i (by omega)
  have e1 := cut_flat ys i hi
  have hgE := h1.2 g rfl
  have hgB := (h1.1.lt g rfl).1
  -- the row: note
  have r1 := h1.1
  rw [e1] at r1
  have s1 := stored1 (A := (ys.take i).flatMap actCells) (z := .int .i64 ys[i].2.note) (R := ys[i].1 :: .int .i64 ys[i].2.slack :: .int .i64 ys[i].2.weight :: (ys.drop (i + 1)).flatMap actCells) r1 hal (.int .i64 ↑k)
  have a1 : apart (.slice (some ⟨g, 0, none⟩) ys.length cap) ys[i].1 := h3 _ (List.getElem_mem hi)
  have r2 := OwnRow.far (B := B) (E := E) ⟨s1.1, h1.2⟩ hg (apart.symm a1)
  have s2 := stored1 (A := (ys.take i).flatMap actCells ++ [.int .i64 ↑k, ys[i].1]) (z := .int .i64 ys[i].2.slack) (R := .int .i64 ys[i].2.weight :: (ys.drop (i + 1)).flatMap actCells) (j := i * 4 + 2) (by simpa using r2.1) (by simp [hal]) (.int .i64 ↑(k + 1 + ys[i].2.levs.length * 2))
  have s3 := stored1 (A := (ys.take i).flatMap actCells ++ [.int .i64 ↑k, ys[i].1, .int .i64 ↑(k + 1 + ys[i].2.levs.length * 2)]) (z := .int .i64 ys[i].2.weight) (R := (ys.drop (i + 1)).flatMap actCells) (j := i * 4 + 3) (by simpa using s2.1) (by simp [hal]) (.int .i64 ↑(k + 1 + ys[i].2.levs.length * 2 + 1))
  have hset : (ys.set i (ys[i].1, mkAct k ys[i].2)).length = ys.length := by simp
  refine ⟨⟨⟨?_, h1.2⟩, ?_, ?_, ?_⟩, ?_⟩
  · rw [hset, set_flat ys i hi]
    simpa [actCells, mkAct] using s3.1
  · intro y hy
    obtain ⟨j, hj, rfl⟩ := List.getElem_of_mem hy
    rw [hset] at hj
    by_cases e : i = j
    · subst e
      simp only [List.getElem_set_self, mkAct, mkLevs_len, mkLevs_cells]
      have q : OwnRow B E w2 51 2 ys[i].1 ys[i].2.levs.length (marks (k + 1) (ys[i].2.levs.length * 2)) := ⟨ho, (h2 _ (List.getElem_mem hi)).2⟩
      exact (q.far s2.2 (by rcases a1 with h | h <;> first | (simp [Value.ownBlock] at h; done) | exact .inr h)).far s3.2 (by rcases a1 with h | h <;> first | (simp [Value.ownBlock] at h; done) | exact .inr h)
    · rw [List.getElem_set_ne e]
      have aj : apart (.slice (some ⟨g, 0, none⟩) ys.length cap) ys[j].1 := h3 _ (List.getElem_mem hj)
      have aj' : some g = none ∨ some g ≠ ys[j].1.ownBlock := aj
      have ij := pair_apart h4 hi hj e
      exact ((((h2 _ (List.getElem_mem hj)).far s1.2 aj').far hg ij).far s2.2 aj').far s3.2 aj'
  · intro y hy
    obtain ⟨j, hj, rfl⟩ := List.getElem_of_mem hy
    rw [hset] at hj
    by_cases e : i = j
    · subst e; simpa using a1
    · rw [List.getElem_set_ne e]; exact h3 _ (List.getElem_mem hj)
  · have : (ys.set i (ys[i].1, mkAct k ys[i].2)).map Prod.fst = ys.map Prod.fst := by
      apply List.ext_getElem (by simp)
      intro j hj1 hj2
      by_cases e : i = j
      · subst e; simp
      · simp [List.getElem_set_ne e]
    rw [this]; exact h4
  · have t1 : Touch B E w (w.setCell ⟨g, i * 4, none⟩ (.int .i64 ↑k)) := (Touch.refl B E w).setCell ⟨hgB, hgE⟩ _
    have t2 : Touch B E (w.setCell ⟨g, i * 4, none⟩ (.int .i64 ↑k)) w2 := Touch.of_grown hg fun q hq => ⟨((h2 _ (List.getElem_mem hi)).1.lt q hq).1, (h2 _ (List.getElem_mem hi)).2 q hq⟩
    exact ((t1.trans t2).setCell ⟨hgB, hgE⟩ _).setCell ⟨hgB, hgE⟩ _

theorem levs_fst (ys : List (Value × ActD)) (xs : List ActD) (i : Nat) (k : Nat) (hi : i < xs.length) (h : ys.map Prod.snd = (mkActs k xs).take i ++ xs.drop i) (hy : i < ys.length) : ys[i].2 = xs[i] := by
  have e := congrArg (fun l => l[i]?) h
  simp only [List.getElem?_map] at e
  rw [List.getElem?_append_right (by simp; omega)] at e
  simp [hy, hi, mkActs_len, Nat.min_eq_left (show i ≤ xs.length by omega)] at e
  exact e
theorem mk_next (ys : List (Value × ActD)) (xs : List ActD) (i : Nat) (k : Nat) (hi : i < xs.length) (h : ys.map Prod.snd = (mkActs k xs).take i ++ xs.drop i) (v : Value) :
    (ys.set i (v, mkAct (k + numSum xs i) xs[i])).map Prod.snd = (mkActs k xs).take (i + 1) ++ xs.drop (i + 1) := by
  have hl : i < (mkActs k xs).length := by rw [mkActs_len]; exact hi
  rw [List.map_set, h, List.take_succ_eq_append_getElem hl, mkActs_at k xs hi]
  rw [List.set_append_right _ _ (by simp; omega), List.length_take, Nat.min_eq_left (by omega), Nat.sub_self]
  rw [List.drop_eq_getElem_cons hi, List.set_cons_zero]; simp

end Go.Proofs.Ytijhlllajddlpaa
