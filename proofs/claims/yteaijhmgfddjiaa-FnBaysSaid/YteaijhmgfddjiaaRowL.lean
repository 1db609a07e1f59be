/- Rows: which lists are rows; inverse, composition, order. Plain. -/
import Derived.Test.YteaijhmgfddjiaaPutL
import Derived.Test.YteaijhmgfddjiaaRounds
set_option linter.unusedSimpArgs false
set_option linter.unnecessarySimpa false
set_option linter.unusedVariables false
namespace Go.Proofs.Yteaijhmgfddjiaa
open Go.RowKit

/-- What ValidRow says. -/
structure RowOk (xs : List Int) : Prop where
  stage : stage xs.length
  mem : ∀ x ∈ xs, 1 ≤ x ∧ x ≤ xs.length
  nodup : xs.Nodup
noncomputable instance (xs : List Int) : Decidable (RowOk xs) := Classical.propDecidable _
noncomputable def rowB (xs : List Int) : Bool := decide (RowOk xs)
theorem rowB_iff {xs : List Int} : rowB xs = true ↔ RowOk xs := by simp [rowB]
theorem finRow {xs : List Int} {b : Bool} (h : RowOk xs ↔ b = true) : b = rowB xs := by cases b <;> simp [rowB] at h ⊢ <;> exact h

theorem mem_rounds (n : Nat) (x : Int) : x ∈ rounds n ↔ 1 ≤ x ∧ x ≤ n := by
  unfold rounds
  rw [List.mem_map]
  constructor
  · rintro ⟨i, hi, rfl⟩
    have := List.mem_range.1 hi
    omega
  · intro h
    exact ⟨(x - 1).toNat, List.mem_range.2 (by omega), by omega⟩
theorem rounds_strict (n : Nat) : Strict (rounds n) := by
  unfold rounds Strict
  rw [List.pairwise_map]
  exact List.pairwise_lt_range.imp fun h => by omega
theorem strict_nodup {xs : List Int} (h : Strict xs) : xs.Nodup := h.imp fun h => by omega
theorem strict_count : ∀ (l : List Int) (a b : Int), Strict l → (∀ x ∈ l, a < x ∧ x ≤ b) → a ≤ b → (l.length : Int) ≤ b - a
  | [], a, b, _, _, h => by simp; omega
  | y :: t, a, b, hs, hm, h => by
    have hs' := List.pairwise_cons.1 hs
    have hy := hm y (List.mem_cons_self ..)
    have := strict_count t y b hs'.2 (fun x hx => ⟨hs'.1 x hx, (hm x (List.mem_cons_of_mem _ hx)).2⟩) hy.2
    simp only [List.length_cons]
    omega
theorem strict_full : ∀ (l : List Int) (a : Int), Strict l → (∀ x ∈ l, a < x ∧ x ≤ a + l.length) → l = (List.range l.length).map fun (i : Nat) => a + (i : Int) + 1
  | [], a, _, _ => rfl
  | y :: t, a, hs, hm => by
    have hs' := List.pairwise_cons.1 hs
    have hy := hm y (List.mem_cons_self ..)
    simp only [List.length_cons] at hm hy
    have hc := strict_count t y (a + (t.length + 1 : Nat)) hs'.2 (fun x hx => ⟨hs'.1 x hx, (hm x (List.mem_cons_of_mem _ hx)).2⟩) hy.2
    have e : y = a + 1 := by omega
    have ih := strict_full t (a + 1) hs'.2 (fun x hx => ⟨by have := hs'.1 x hx; omega, by have := (hm x (List.mem_cons_of_mem _ hx)).2; omega⟩)
    rw [List.length_cons, List.range_succ_eq_map, List.map_cons, List.map_map]
    conv => lhs; rw [ih, e]
    congr 1
    · simp
    · apply List.map_congr_left
      intro i _
      simp only [Function.comp]
      omega
/-- Sorted ones are rounds. -/
theorem row_sorted (xs : List Int) : sortI xs = rounds xs.length ↔ (∀ x ∈ xs, 1 ≤ x ∧ x ≤ xs.length) ∧ xs.Nodup := by
  have hp := sortI_perm xs
  constructor
  · intro h
    rw [h] at hp
    exact ⟨fun x hx => (mem_rounds _ x).1 (hp.mem_iff.2 hx), hp.nodup_iff.1 (strict_nodup (rounds_strict _))⟩
  · rintro ⟨hm, hn⟩
    have hs : Strict (sortI xs) := by
      have h1 := sortI_le xs
      have h2 : (sortI xs).Nodup := hp.nodup_iff.2 hn
      exact (h1.and h2).imp fun h => by have := h.1; have := h.2; omega
    have hl : (sortI xs).length = xs.length := hp.length_eq
    have := strict_full (sortI xs) 0 hs (fun x hx => by have := hm x (hp.mem_iff.1 hx); omega)
    rw [this, hl]
    unfold rounds
    exact List.map_congr_left fun i _ => by omega

/-- The bell at k is right, and is not among those before it. -/
def RowAt (xs : List Int) (k : Nat) : Prop := ∀ h : k < xs.length, (1 ≤ xs[k] ∧ xs[k] ≤ xs.length) ∧ xs[k] ∉ xs.take k
theorem rowAt_step {xs : List Int} {k : Nat} (h : ∀ i, i < k → RowAt xs i) (hk : RowAt xs k) : ∀ i, i < k + 1 → RowAt xs i := fun i hi => by
  by_cases e : i = k
  · rw [e]; exact hk
  · exact h i (by omega)
theorem rowAt_all {xs : List Int} : (∀ i, i < xs.length → RowAt xs i) ↔ (∀ x ∈ xs, 1 ≤ x ∧ x ≤ xs.length) ∧ xs.Nodup := by
  constructor
  · intro h
    refine ⟨fun x hx => ?_, ?_⟩
    · obtain ⟨k, hk, rfl⟩ := List.getElem_of_mem hx
      exact (h k hk hk).1
    · unfold List.Nodup
      rw [List.pairwise_iff_getElem]
      intro i j hi hj hij e
      refine (h j hj hj).2 ?_
      rw [← e, List.mem_take_iff_getElem]
      exact ⟨i, by omega, rfl⟩
  · rintro ⟨hm, hn⟩ k hk _
    refine ⟨hm _ (List.getElem_mem hk), fun hx => ?_⟩
    obtain ⟨i, hi, e⟩ := List.mem_take_iff_getElem.1 hx
    unfold List.Nodup at hn
    rw [List.pairwise_iff_getElem] at hn
    exact hn i k (by omega) hk (by omega) e

/-- The inverse, as far as k bells. -/
def invTo (xs : List Int) : Nat → List Int
  | 0 => List.replicate xs.length 0
  | k + 1 => (invTo xs k).set (xs.getD k 0 - 1).toNat ((k : Int) + 1)
theorem invTo_len (xs : List Int) : ∀ k, (invTo xs k).length = xs.length
  | 0 => by simp [invTo]
  | k + 1 => by simp [invTo, invTo_len xs k]
noncomputable def invV (xs : List Int) : List Int := if RowOk xs then invTo xs xs.length else []
noncomputable def invC (xs : List Int) : Int := if RowOk xs then 0 else 1
theorem inv_len (xs : List Int) : (invV xs).length ≤ 1048576 := by
  unfold invV; split
  · rename_i h; rw [invTo_len]; have := h.stage; unfold stage at this; omega
  · simp

/-- The bells of a at the places of b. -/
def comp (a b : List Int) : List Int := b.map fun p => a.getD (p - 1).toNat 0
theorem comp_len (a b : List Int) : (comp a b).length = b.length := by simp [comp]
theorem comp_step (a b : List Int) {k : Nat} (hk : k < b.length) : comp a (b.take (k + 1)) = comp a (b.take k) ++ [a.getD (b[k] - 1).toNat 0] := by
  unfold comp; rw [List.take_succ_eq_append_getElem hk, List.map_append]; rfl
noncomputable def compV (a b : List Int) : List Int := if RowOk a then if RowOk b then if a.length = b.length then comp a b else [] else [] else []
noncomputable def compC (a b : List Int) : Int := if RowOk a then if RowOk b then if a.length = b.length then 0 else 7 else 1 else 1
theorem compV_len (a b : List Int) : (compV a b).length ≤ 1048576 := by
  unfold compV; split
  · split
    · split
      · rename_i h _; rw [comp_len]; have := h.stage; unfold stage at this; omega
      · simp
    · simp
  · simp

/-- A row as often as k + 1 times. -/
def pw (xs : List Int) : Nat → List Int
  | 0 => xs
  | k + 1 => comp (pw xs k) xs
theorem pw_len (xs : List Int) : ∀ k, (pw xs k).length = xs.length
  | 0 => rfl
  | k + 1 => by rw [pw, comp_len]
/-- Where a place goes. -/
def step (xs : List Int) (i : Nat) : Nat := (xs.getD i 0 - 1).toNat
def steps (xs : List Int) : Nat → Nat → Nat
  | 0, i => i
  | k + 1, i => steps xs k (step xs i)
theorem steps_add (xs : List Int) : ∀ (a b i : Nat), steps xs (a + b) i = steps xs b (steps xs a i)
  | 0, b, i => by rw [Nat.zero_add]; rfl
  | a + 1, b, i => by rw [show a + 1 + b = (a + b) + 1 by omega, steps, steps, steps_add xs a b]
theorem steps_mul {xs : List Int} {c i : Nat} (hc : steps xs c i = i) : ∀ m, steps xs (m * c) i = i
  | 0 => by rw [Nat.zero_mul]; rfl
  | m + 1 => by rw [Nat.succ_mul, steps_add, steps_mul hc m, hc]
section
variable {xs : List Int} (h : RowOk xs)
include h
theorem step_lt {i : Nat} (hi : i < xs.length) : step xs i < xs.length ∧ xs.getD i 0 = (step xs i : Int) + 1 := by
  have h1 := h.mem xs[i] (List.getElem_mem hi)
  unfold step
  simp only [List.getD_eq_getElem?_getD, List.getElem?_eq_getElem hi, Option.getD_some]
  omega
theorem step_inj {i j : Nat} (hi : i < xs.length) (hj : j < xs.length) (e : step xs i = step xs j) : i = j := by
  have h1 := (step_lt h hi).2
  have h2 := (step_lt h hj).2
  rw [e, ← h2] at h1
  simp only [List.getD_eq_getElem?_getD, List.getElem?_eq_getElem hi, List.getElem?_eq_getElem hj, Option.getD_some] at h1
  have hn := h.nodup
  unfold List.Nodup at hn
  rw [List.pairwise_iff_getElem] at hn
  rcases Nat.lt_trichotomy i j with g | g | g
  · exact absurd h1 (hn i j hi hj g)
  · exact g
  · exact absurd h1.symm (hn j i hj hi g)
theorem steps_lt : ∀ (k : Nat) {i : Nat}, i < xs.length → steps xs k i < xs.length
  | 0, _, hi => hi
  | k + 1, i, hi => steps_lt k (step_lt h hi).1
theorem steps_inj : ∀ (k : Nat) {i j : Nat}, i < xs.length → j < xs.length → steps xs k i = steps xs k j → i = j
  | 0, _, _, _, _, e => e
  | k + 1, i, j, hi, hj, e => step_inj h hi hj (steps_inj k (step_lt h hi).1 (step_lt h hj).1 e)
theorem pw_at : ∀ (k : Nat) {i : Nat}, i < xs.length → (pw xs k).getD i 0 = (steps xs (k + 1) i : Int) + 1
  | 0, i, hi => (step_lt h hi).2
  | k + 1, i, hi => by
    have h1 := (step_lt h hi)
    have h2 := pw_at k h1.1
    unfold pw comp
    rw [List.getD_eq_getElem?_getD, List.getElem?_map, List.getElem?_eq_getElem hi]
    simp only [Option.map_some, Option.getD_some]
    have h3 : xs[i] = xs.getD i 0 := by simp [hi]
    rw [h3, show (xs.getD i 0 - 1).toNat = step xs i from rfl, h2]
    rfl
theorem pw_rounds {k : Nat} (hk : ∀ i, i < xs.length → steps xs (k + 1) i = i) : pw xs k = rounds xs.length := by
  apply List.ext_getElem (by rw [pw_len, rounds_len])
  intro i h1 h2
  rw [pw_len] at h1
  have := pw_at h k h1
  rw [hk i h1] at this
  simp only [List.getD_eq_getElem?_getD, List.getElem?_eq_getElem (show i < (pw xs k).length by rw [pw_len]; exact h1), Option.getD_some] at this
  rw [this]
  simp [rounds]
/-- Places come back. -/
theorem comes_back {i : Nat} (hi : i < xs.length) : ∃ c, 1 ≤ c ∧ c ≤ xs.length ∧ steps xs c i = i := by
  have hnot : ¬ ((List.range (xs.length + 1)).map fun (j : Nat) => (steps xs j i : Int)).Nodup := by
    intro hn
    have hp := sortI_perm ((List.range (xs.length + 1)).map fun (j : Nat) => (steps xs j i : Int))
    have hs : Strict (sortI ((List.range (xs.length + 1)).map fun (j : Nat) => (steps xs j i : Int))) :=
      ((sortI_le _).and (hp.nodup_iff.2 hn)).imp fun h => by have := h.1; have := h.2; omega
    have hc := strict_count _ (-1) ((xs.length : Int) - 1) hs (fun x hx => by
      obtain ⟨j, _, rfl⟩ := List.mem_map.1 (hp.mem_iff.1 hx)
      have := steps_lt h j hi
      omega) (by omega)
    rw [hp.length_eq] at hc
    simp at hc
    omega
  have hex : ∃ a b, a < b ∧ b ≤ xs.length ∧ steps xs a i = steps xs b i := by
    apply Classical.byContradiction
    intro hno
    apply hnot
    unfold List.Nodup
    rw [List.pairwise_iff_getElem]
    intro a b ha hb hab e
    simp at ha hb e
    exact hno ⟨a, b, hab, by omega, by omega⟩
  obtain ⟨a, b, hab, hb, e⟩ := hex
  refine ⟨b - a, by omega, by omega, ?_⟩
  have h1 : steps xs b i = steps xs a (steps xs (b - a) i) := by rw [← steps_add]; congr 1; omega
  rw [h1] at e
  exact (steps_inj h a hi (steps_lt h _ hi) e).symm
theorem order_at : pw xs 27719 = rounds xs.length := by
  refine pw_rounds h fun i hi => ?_
  obtain ⟨c, h1, h2, h3⟩ := comes_back h hi
  have hst := h.stage
  unfold stage at hst
  have hd : c ∣ 27720 := by
    have : c ≤ 12 := by omega
    clear h2 h3
    match c, h1, this with
    | 1, _, _ => decide
    | 2, _, _ => decide
    | 3, _, _ => decide
    | 4, _, _ => decide
    | 5, _, _ => decide
    | 6, _, _ => decide
    | 7, _, _ => decide
    | 8, _, _ => decide
    | 9, _, _ => decide
    | 10, _, _ => decide
    | 11, _, _ => decide
    | 12, _, _ => decide
  obtain ⟨m, hm⟩ := hd
  have := steps_mul h3 m
  rwa [Nat.mul_comm, ← hm] at this
theorem has_order : ∃ k, pw xs k = rounds xs.length := ⟨_, order_at h⟩
end
theorem least_of {p : Nat → Prop} (h : ∃ k, p k) : ∃ k, p k ∧ ∀ j, j < k → ¬ p j := by
  obtain ⟨k, hk⟩ := h
  induction k using Nat.strongRecOn with
  | _ k ih =>
    by_cases g : ∃ j, j < k ∧ p j
    · obtain ⟨j, hj, hp⟩ := g; exact ih j hj hp
    · exact ⟨k, hk, fun j hj hp => g ⟨j, hj, hp⟩⟩
noncomputable def ordV (xs : List Int) : Int := if h : RowOk xs then ((Classical.choose (least_of (has_order h)) : Nat) : Int) + 1 else 0
theorem ord_spec {xs : List Int} (h : RowOk xs) : ∃ k : Nat, ordV xs = (k : Int) + 1 ∧ pw xs k = rounds xs.length ∧ (∀ j, j < k → ¬ pw xs j = rounds xs.length) ∧ k ≤ 27719 := by
  have hs := Classical.choose_spec (least_of (has_order h))
  refine ⟨Classical.choose (least_of (has_order h)), by unfold ordV; rw [dif_pos h], hs.1, hs.2, ?_⟩
  exact Nat.le_of_not_lt fun hlt => hs.2 _ hlt (order_at h)
theorem ord_no {xs : List Int} (h : ¬ RowOk xs) : ordV xs = 0 := by unfold ordV; rw [dif_neg h]
noncomputable def ordC (xs : List Int) : Int := if RowOk xs then 0 else 1

end Go.Proofs.Yteaijhmgfddjiaa
