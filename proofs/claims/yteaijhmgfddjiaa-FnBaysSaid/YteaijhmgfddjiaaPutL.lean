/- Numbers put in their places, sorted, made unique: plain. -/
import Derived.Test.YteaijhmgfddjiaaMem
import Derived.Lib.SlicesCompact
import Derived.Lib.RowBridge
set_option linter.unusedSimpArgs false
set_option linter.unnecessarySimpa false
set_option linter.unusedVariables false
namespace Go.Proofs.Yteaijhmgfddjiaa
open Go.RowKit

/-- A number put in its place among rising ones, once. -/
def putI : List Int → Int → List Int
  | [], n => [n]
  | x :: r, n => if n ≤ x then (if n < x then n :: x :: r else x :: r) else x :: putI r n
theorem putI_nil (n : Int) : putI [] n = [n] := rfl
theorem putI_drop {xs : List Int} {k : Nat} (h : k < xs.length) (n : Int) : putI (xs.drop k) n = if n ≤ xs[k] then (if n < xs[k] then n :: xs[k] :: xs.drop (k + 1) else xs[k] :: xs.drop (k + 1)) else xs[k] :: putI (xs.drop (k + 1)) n := by
  rw [List.drop_eq_getElem_cons h]; rfl
theorem putI_len : ∀ (xs : List Int) (n : Int), (putI xs n).length ≤ xs.length + 1
  | [], _ => by simp [putI]
  | x :: r, n => by
    have := putI_len r n
    unfold putI; split
    · split <;> simp
    · simp; omega
theorem mem_putI : ∀ (xs : List Int) (n x : Int), x ∈ putI xs n ↔ x = n ∨ x ∈ xs
  | [], n, x => by simp [putI]
  | y :: r, n, x => by
    unfold putI
    split
    · split
      · simp
      · rename_i h1 h2
        have e : n = y := by omega
        subst e; simp
    · simp only [List.mem_cons, mem_putI r n x]
      constructor
      · rintro (h | h | h) <;> simp [h]
      · rintro (h | h | h) <;> simp [h]
def Strict (xs : List Int) : Prop := xs.Pairwise (· < ·)
theorem putI_strict : ∀ (xs : List Int) (n : Int), Strict xs → Strict (putI xs n)
  | [], n, _ => by simp [putI, Strict]
  | y :: r, n, h => by
    have h' := List.pairwise_cons.1 h
    unfold putI
    split
    · split
      · rename_i h1 h2
        refine List.pairwise_cons.2 ⟨fun x hx => ?_, h⟩
        rcases List.mem_cons.1 hx with rfl | hx
        · exact h2
        · have := h'.1 x hx; omega
      · exact h
    · rename_i h1
      refine List.pairwise_cons.2 ⟨fun x hx => ?_, putI_strict r n h'.2⟩
      rcases (mem_putI r n x).1 hx with rfl | hx
      · omega
      · exact h'.1 x hx

theorem strict_ext : ∀ (l1 l2 : List Int), Strict l1 → Strict l2 → (∀ x, x ∈ l1 ↔ x ∈ l2) → l1 = l2
  | [], [], _, _, _ => rfl
  | [], b :: l2, _, _, h => by have := (h b).2 (by simp); simp at this
  | a :: l1, [], _, _, h => by have := (h a).1 (by simp); simp at this
  | a :: l1, b :: l2, h1, h2, h => by
    have g1 := List.pairwise_cons.1 h1
    have g2 := List.pairwise_cons.1 h2
    have e : a = b := by
      rcases List.mem_cons.1 ((h a).1 (by simp)) with e | e
      · exact e
      · rcases List.mem_cons.1 ((h b).2 (by simp)) with e' | e'
        · exact e'.symm
        · have := g1.1 b e'; have := g2.1 a e; omega
    subst e
    rw [strict_ext l1 l2 g1.2 g2.2 fun x => ?_]
    constructor
    · intro hx
      rcases List.mem_cons.1 ((h x).1 (by simp [hx])) with e | e
      · have := g1.1 x hx; omega
      · exact e
    · intro hx
      rcases List.mem_cons.1 ((h x).2 (by simp [hx])) with e | e
      · have := g2.1 x hx; omega
      · exact e

def sortI (zs : List Int) : List Int := zs.mergeSort fun x y => decide (x ≤ y)
theorem sortI_len (zs : List Int) : (sortI zs).length = zs.length := List.length_mergeSort zs
theorem sortI_mem (zs : List Int) (x : Int) : x ∈ sortI zs ↔ x ∈ zs := by simp [sortI]
theorem sortI_perm (zs : List Int) : (sortI zs).Perm zs := List.mergeSort_perm zs _
theorem sortI_le (zs : List Int) : (sortI zs).Pairwise (· ≤ ·) := by
  have := List.pairwise_mergeSort (le := fun x y : Int => decide (x ≤ y)) (by intro a b c h1 h2; simp at *; omega) (by intro a b; simp; omega) zs
  exact this.imp (by intro a b h; simpa using h)

theorem compactUpTo_inv (zs : List Int) (hs : zs.Pairwise (· ≤ ·)) : ∀ m, m ≤ zs.length →
    Strict (Lib.compactUpTo zs.toArray m) ∧ (∀ x ∈ Lib.compactUpTo zs.toArray m, ∃ j, j < m ∧ x = zs.getD j 0) ∧ (∀ j, j < m → zs.getD j 0 ∈ Lib.compactUpTo zs.toArray m)
  | 0, _ => by simp [Lib.compactUpTo, Strict]
  | m + 1, hm => by
    obtain ⟨i1, i2, i3⟩ := compactUpTo_inv zs hs m (by omega)
    have gd : ∀ j, j < zs.length → zs.toArray[j]! = zs.getD j 0 := fun j hj => by simp [hj]
    have mono : ∀ i j, i ≤ j → j < zs.length → zs.getD i 0 ≤ zs.getD j 0 := fun i j hij hj => by
      rcases Nat.eq_or_lt_of_le hij with rfl | hlt
      · exact Int.le_refl _
      · have := (List.pairwise_iff_getElem.1 hs) i j (by omega) hj hlt
        simpa [show i < zs.length by omega, hj] using this
    rw [Lib.compactUpTo_succ]
    by_cases hk : Lib.keeps zs.toArray m = true
    · rw [if_pos hk, gd m (by omega)]
      refine ⟨?_, ?_, ?_⟩
      · refine List.pairwise_append.2 ⟨i1, by simp, fun x hx y hy => ?_⟩
        simp only [List.mem_singleton] at hy
        subst hy
        obtain ⟨j, hj, rfl⟩ := i2 x hx
        have h1 : zs.toArray[m]! ≠ zs.toArray[m - 1]! := by
          simp only [Lib.keeps, decide_eq_true_eq] at hk
          rcases hk with h | h
          · omega
          · exact h
        rw [gd m (by omega), gd (m - 1) (by omega)] at h1
        have h2 := mono j (m - 1) (by omega) (by omega)
        have h3 := mono (m - 1) m (by omega) (by omega)
        omega
      · intro x hx
        rcases List.mem_append.1 hx with hx | hx
        · obtain ⟨j, hj, e⟩ := i2 x hx; exact ⟨j, by omega, e⟩
        · exact ⟨m, by omega, by simpa using hx⟩
      · intro j hj
        by_cases e : j = m
        · subst e; simp
        · exact List.mem_append_left _ (i3 j (by omega))
    · rw [if_neg hk, List.append_nil]
      refine ⟨i1, fun x hx => by obtain ⟨j, hj, e⟩ := i2 x hx; exact ⟨j, by omega, e⟩, fun j hj => ?_⟩
      by_cases e : j = m
      · subst e
        have h1 : j ≠ 0 ∧ zs.toArray[j]! = zs.toArray[j - 1]! := by
          simp only [Lib.keeps, decide_eq_true_eq, not_or, Classical.not_not] at hk
          exact hk
        rw [gd j (by omega), gd (j - 1) (by omega)] at h1
        rw [h1.2]; exact i3 _ (by omega)
      · exact i3 j (by omega)
theorem compact_strict {zs : List Int} (hs : zs.Pairwise (· ≤ ·)) : Strict (Lib.compact zs) := (compactUpTo_inv zs hs zs.length (Nat.le_refl _)).1
theorem compact_mem {zs : List Int} (hs : zs.Pairwise (· ≤ ·)) (x : Int) : x ∈ Lib.compact zs ↔ x ∈ zs := by
  obtain ⟨_, i2, i3⟩ := compactUpTo_inv zs hs zs.length (Nat.le_refl _)
  constructor
  · intro h
    obtain ⟨j, hj, e⟩ := i2 x h
    rw [e]; simp [hj]
  · intro h
    obtain ⟨j, hj, e⟩ := List.getElem_of_mem h
    have := i3 j hj
    simp only [List.getD_eq_getElem?_getD, hj, List.getElem?_eq_getElem, Option.getD_some] at this
    rw [e] at this; exact this

/-- All of some numbers, in order, each once. -/
def notesOfL (ns : List Int) : List Int := ns.foldl putI []
theorem foldl_putI (ns : List Int) : ∀ acc, Strict acc → Strict (ns.foldl putI acc) ∧ ∀ x, x ∈ ns.foldl putI acc ↔ x ∈ acc ∨ x ∈ ns := by
  induction ns with
  | nil => intro acc h; exact ⟨h, by simp⟩
  | cons n r ih =>
    intro acc h
    obtain ⟨h1, h2⟩ := ih (putI acc n) (putI_strict acc n h)
    refine ⟨h1, fun x => ?_⟩
    rw [List.foldl_cons, h2, mem_putI, List.mem_cons]
    constructor
    · rintro ((h | h) | h) <;> simp [h]
    · rintro (h | h | h) <;> simp [h]
theorem notesOfL_strict (ns : List Int) : Strict (notesOfL ns) := (foldl_putI ns [] (by simp [Strict])).1
theorem notesOfL_mem (ns : List Int) (x : Int) : x ∈ notesOfL ns ↔ x ∈ ns := by have := (foldl_putI ns [] (by simp [Strict])).2 x; simpa [notesOfL] using this
theorem notesOfL_eq (ns : List Int) : Lib.compact (sortI ns) = notesOfL ns :=
  strict_ext _ _ (compact_strict (sortI_le ns)) (notesOfL_strict ns) fun x => by rw [compact_mem (sortI_le ns), sortI_mem, notesOfL_mem]
theorem foldl_putI_len (ns : List Int) : ∀ acc, (ns.foldl putI acc).length ≤ acc.length + ns.length := by
  induction ns with
  | nil => intro acc; simp
  | cons n r ih => intro acc; have := ih (putI acc n); have := putI_len acc n; simp; omega
theorem notesOfL_len (ns : List Int) : (notesOfL ns).length ≤ ns.length := by have := foldl_putI_len ns []; simpa [notesOfL] using this

end Go.Proofs.Yteaijhmgfddjiaa
