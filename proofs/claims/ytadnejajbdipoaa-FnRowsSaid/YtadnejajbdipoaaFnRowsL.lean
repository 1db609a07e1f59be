/- Rows, their inverses and their powers. Plain. -/
import Derived.Test.YtadnejajbdipoaaLandau
import Derived.Test.YtadnejajbdipoaaDraw27
import Derived.Test.YtadnejajbdipoaaReadRow
import Derived.Test.YtadnejajbdipoaaRowText
import Derived.Test.YtadnejajbdipoaaRepeat
set_option linter.unusedSimpArgs false
set_option linter.unnecessarySimpa false
set_option linter.unusedVariables false
set_option maxRecDepth 100000
namespace Go.Proofs.Ytadnejajbdipoaa
open Go.RowKit

theorem comp_getD {a b : List Int} (hb : RowOk b) {i : Nat} (hi : i < b.length) : (comp a b).getD i 0 = a.getD (step b i) 0 := by
  unfold comp step
  simp only [List.getD_eq_getElem?_getD, List.getElem?_map, List.getElem?_eq_getElem hi, Option.map_some, Option.getD_some]
theorem ext_getD {a b : List Int} (hl : a.length = b.length) (h : ∀ i, i < a.length → a.getD i 0 = b.getD i 0) : a = b := by
  apply List.ext_getElem hl
  intro i h1 h2
  have := h i h1
  simpa [h1, h2] using this
theorem rounds_at {n i : Nat} (h : i < n) : (rounds n).getD i 0 = (i : Int) + 1 := by simp [rounds, h]
/-- A row is what its steps say. -/
theorem row_of_steps {a : List Int} (hst : stage a.length) (f : Nat → Nat) (hf : ∀ i, i < a.length → a.getD i 0 = (f i : Int) + 1 ∧ f i < a.length) (hi : ∀ i j, i < a.length → j < a.length → f i = f j → i = j) : RowOk a := by
  have hm : ∀ i (h : i < a.length), a[i] = (f i : Int) + 1 := fun i h => by
    have := (hf i h).1
    simpa [h] using this
  refine ⟨hst, fun x hx => ?_, ?_⟩
  · obtain ⟨i, h, rfl⟩ := List.getElem_of_mem hx
    have := hm i h; have := (hf i h).2
    omega
  · unfold List.Nodup
    rw [List.pairwise_iff_getElem]
    intro i j h1 h2 hij e
    rw [hm i h1, hm j h2] at e
    have := hi i j h1 h2 (by omega)
    omega
theorem comp_ok {a b : List Int} (ha : RowOk a) (hb : RowOk b) (hl : a.length = b.length) : RowOk (comp a b) := by
  refine row_of_steps (by rw [comp_len]; exact hb.stage) (fun i => step a (step b i)) (fun i hi => ?_) (fun i j hi hj e => ?_)
  · rw [comp_len] at hi
    rw [comp_getD hb hi, comp_len]
    have h1 := (step_lt hb hi).1
    have h2 := step_lt ha (i := step b i) (by omega)
    exact ⟨h2.2, by have := h2.1; omega⟩
  · rw [comp_len] at hi hj
    have h1 := (step_lt hb hi).1
    have h2 := (step_lt hb hj).1
    exact step_inj hb hi hj (step_inj ha (by omega) (by omega) e)
theorem pw_ok {xs : List Int} (h : RowOk xs) : ∀ k, RowOk (pw xs k)
  | 0 => h
  | k + 1 => comp_ok (pw_ok h k) h (pw_len xs k)
theorem inv_at {xs : List Int} (h : RowOk xs) : ∀ (k : Nat), k ≤ xs.length → ∀ j, j < k → (invTo xs k).getD (step xs j) 0 = (j : Int) + 1
  | 0, _, j, hj => by omega
  | k + 1, hk, j, hj => by
    unfold invTo
    have hs := (step_lt h (i := j) (by omega)).1
    by_cases e : j = k
    · subst e
      rw [show (xs.getD j 0 - 1).toNat = step xs j from rfl, List.getD_eq_getElem?_getD, List.getElem?_set_self (by rw [invTo_len]; exact hs)]
      rfl
    · have hne : ¬ step xs k = step xs j := fun e' => e (step_inj h (by omega) (by omega) e').symm
      rw [show (xs.getD k 0 - 1).toNat = step xs k from rfl, List.getD_eq_getElem?_getD, List.getElem?_set_ne hne, ← List.getD_eq_getElem?_getD]
      exact inv_at h k (by omega) j (by omega)
theorem surj {xs : List Int} (h : RowOk xs) {i : Nat} (hi : i < xs.length) : ∃ j, j < xs.length ∧ step xs j = i := by
  obtain ⟨c, h1, _, h3⟩ := comes_back h hi
  refine ⟨steps xs (c - 1) i, steps_lt h _ hi, ?_⟩
  have := steps_add xs (c - 1) 1 i
  rw [show c - 1 + 1 = c by omega, h3] at this
  exact this.symm
theorem inv_row {xs : List Int} (h : RowOk xs) : RowOk (invTo xs xs.length) ∧ comp xs (invTo xs xs.length) = rounds xs.length ∧ comp (invTo xs xs.length) xs = rounds xs.length := by
  have hl := invTo_len xs xs.length
  have hat := inv_at h xs.length (Nat.le_refl _)
  have hok : RowOk (invTo xs xs.length) := by
    refine row_of_steps (by rw [hl]; exact h.stage) (fun i => step (invTo xs xs.length) i) (fun i hi => ?_) (fun i j hi hj e => ?_)
    · rw [hl] at hi
      obtain ⟨j, hj, rfl⟩ := surj h hi
      have := hat j hj
      have hs : step (invTo xs xs.length) (step xs j) = j := by
        show ((invTo xs xs.length).getD (step xs j) 0 - 1).toNat = j
        rw [this]; omega
      rw [this, hl]
      simp only [hs]
      exact ⟨trivial, hj⟩
    · rw [hl] at hi hj
      obtain ⟨i', hi', rfl⟩ := surj h hi
      obtain ⟨j', hj', rfl⟩ := surj h hj
      have h1 := hat i' hi'
      have h2 := hat j' hj'
      have e' : ((invTo xs xs.length).getD (step xs i') 0 - 1).toNat = ((invTo xs xs.length).getD (step xs j') 0 - 1).toNat := e
      rw [h1, h2] at e'
      have : i' = j' := by omega
      rw [this]
  have hst : ∀ j, j < xs.length → step (invTo xs xs.length) (step xs j) = j := fun j hj => by
    have := hat j hj
    show ((invTo xs xs.length).getD (step xs j) 0 - 1).toNat = j
    rw [this]; omega
  refine ⟨hok, ext_getD (by rw [comp_len, hl, rounds_len]) fun i hi => ?_, ext_getD (by rw [comp_len, rounds_len]) fun i hi => ?_⟩
  · rw [comp_len, hl] at hi
    obtain ⟨j, hj, rfl⟩ := surj h hi
    rw [comp_getD hok (by rw [hl]; exact hi), hst j hj, (step_lt h hj).2, rounds_at hi]
  · rw [comp_len] at hi
    rw [comp_getD h hi, hat i hi, rounds_at hi]

theorem val_sgn : ∀ k : Fin 13, 1 ≤ k.val → valN ((sgnB (k.val : Int)).toNat : Int) = (k.val : Int) := by decide +kernel
theorem read_text {xs : List Int} (h : RowOk xs) : readV (rtV xs) = xs ∧ readB (rtV xs) = true := by
  have hs : (rtV xs).size = xs.length := by rw [rt_yes h]; show (textL xs).toArray.size = _; simp [textL]
  have e : readL (rtV xs) (rtV xs).size = xs := by
    rw [hs]
    apply List.ext_getElem (by rw [readL_len])
    intro i h1 h2
    rw [show (readL (rtV xs) xs.length)[i] = valN (byteAt (rtV xs) i) by simp [readL]]
    have hm := h.mem _ (List.getElem_mem h2)
    have hst := h.stage
    unfold stage at hst
    have hb : byteAt (rtV xs) i = ((sgnB xs[i]).toNat : Int) := by
      rw [rt_yes h]
      unfold byteAt textL
      simp [h2]
    obtain ⟨k, hk⟩ : ∃ k : Nat, xs[i] = (k : Int) := ⟨xs[i].toNat, by omega⟩
    rw [hb, hk]
    exact val_sgn ⟨k, by omega⟩ (by simp only; omega)
  obtain ⟨e1, e2⟩ := read_yes (s := rtV xs) (by rw [e]; exact h)
  exact ⟨by rw [e1, e], e2⟩

theorem fr_three {xs : List Int} (h : RowOk xs) : frV [xs, rounds xs.length, xs] = (if xs = rounds xs.length then 1 else 2) ∧ frC [xs, rounds xs.length, xs] = 0 := by
  have hb : rowsB [xs, rounds xs.length, xs] = true := by
    have g1 : badRow [xs, rounds xs.length, xs] xs = false := bad_no h rfl
    have g2 : badRow [xs, rounds xs.length, xs] (rounds xs.length) = false := bad_no (row_rounds h.stage) (by rw [rounds_len]; rfl)
    rw [rows_end (by simp [g1, g2])]
    rfl
  obtain ⟨e1, e2⟩ := fr_yes hb
  refine ⟨?_, e2⟩
  rw [e1]
  show frFrom [xs, rounds xs.length, xs] 3 0 = _
  rw [fr_next (by simp)]
  by_cases e : xs = rounds xs.length
  · rw [if_pos e, fr_hit]
    · rfl
    · rw [← e]; simp
  · rw [if_neg e, fr_next, fr_hit]
    · rfl
    · simp
    · have e' : ¬ rounds xs.length = xs := fun g => e g.symm
      simp [e']

end Go.Proofs.Ytadnejajbdipoaa
