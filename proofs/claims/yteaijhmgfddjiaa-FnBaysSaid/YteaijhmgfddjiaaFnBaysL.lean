/- The search for places: places that it finds are possible, and where it ends without being spent there are no others. No program in sight. -/
import Derived.Test.YteaijhmgfddjiaaBayS
set_option linter.unusedSimpArgs false
set_option linter.unnecessarySimpa false
set_option linter.unusedVariables false
set_option maxRecDepth 100000
namespace Go.Proofs.Yteaijhmgfddjiaa
open Go.RowKit

def Good (bays : List BayD) (list : List CasD) (pl : List Int) : Prop := ∀ k, k < pl.length → ∃ b : Nat, b < bays.length ∧ pl.getD k 0 = (b : Int) ∧ canP bays list (pl.take k) k b
/-- How many different numbers. -/
def kd (pl : List Int) : Nat := (notesOfL pl).length
theorem strict_subB : ∀ (l2 l1 : List Int), Strict l1 → Strict l2 → (∀ x ∈ l1, x ∈ l2) → l1.length ≤ l2.length
  | [], l1, _, _, h => by
    cases l1 with
    | nil => exact Nat.le_refl _
    | cons a l => exact absurd (h a (List.mem_cons_self ..)) (by simp)
  | b :: l2, [], _, _, _ => Nat.zero_le _
  | b :: l2, a :: l1, h1, h2, h => by
    obtain ⟨a1, a2⟩ := List.pairwise_cons.1 h1
    obtain ⟨b1, b2⟩ := List.pairwise_cons.1 h2
    have : l1.length ≤ l2.length := strict_subB l2 l1 a2 b2 fun x hx => by
      have hax := a1 x hx
      rcases List.mem_cons.1 (h x (List.mem_cons_of_mem _ hx)) with rfl | g
      · rcases List.mem_cons.1 (h a (List.mem_cons_self ..)) with rfl | g
        · omega
        · have := b1 a g; omega
      · exact g
    simp only [List.length_cons]; omega
theorem kd_sub {p q : List Int} (h : ∀ x ∈ p, x ∈ q) : kd p ≤ kd q :=
  strict_subB _ _ (notesOfL_strict p) (notesOfL_strict q) fun x hx => (notesOfL_mem q x).2 (h x ((notesOfL_mem p x).1 hx))
theorem snocN (ns : List Int) (n : Int) : notesOfL (ns ++ [n]) = putI (notesOfL ns) n := by unfold notesOfL; rw [List.foldl_append]; rfl
theorem kd_snoc (p : List Int) (b : Int) : kd (p ++ [b]) ≤ kd p + 1 := by
  unfold kd; rw [snocN]; exact putI_len _ _
theorem putI_fresh : ∀ (l : List Int) (b : Int), b ∉ l → (putI l b).length = l.length + 1
  | [], b, _ => rfl
  | y :: ys, b, hb => by
    simp only [List.mem_cons, not_or] at hb
    by_cases g : b ≤ y
    · have e : putI (y :: ys) b = b :: y :: ys := by
        unfold putI
        rw [if_pos g, if_pos (by omega)]
      rw [e]; rfl
    · have e : putI (y :: ys) b = y :: putI ys b := by
        conv => lhs; unfold putI
        rw [if_neg g]
      rw [e, List.length_cons, putI_fresh ys b hb.2]; rfl
theorem kd_fresh {p : List Int} {b : Int} (h : b ∉ p) : kd (p ++ [b]) = kd p + 1 := by
  unfold kd; rw [snocN]; exact putI_fresh _ _ fun g => h ((notesOfL_mem p b).1 g)

section
variable {rec : List Int → Nat → Res} {ok : Nat → Prop} {pl : List Int}
theorem try_hit : ∀ n j left, (tryB rec ok pl n j left).found = true → ∃ b l, j ≤ b ∧ b < j + n ∧ ok b ∧ tryB rec ok pl n j left = rec (pl ++ [(b : Int)]) l
  | 0, j, left, h => by cases h
  | n + 1, j, left, h => by
    have next : ∀ l, tryB rec ok pl (n + 1) j left = tryB rec ok pl n (j + 1) l → ∃ b l, j ≤ b ∧ b < j + (n + 1) ∧ ok b ∧ tryB rec ok pl (n + 1) j left = rec (pl ++ [(b : Int)]) l := fun l e => by
      rw [e] at h ⊢
      obtain ⟨b, l2, h1, h2, h3, h4⟩ := try_hit n (j + 1) l h
      exact ⟨b, l2, by omega, by omega, h3, h4⟩
    by_cases g : ok j
    · by_cases h0 : left = 0
      · rw [try_spent g h0] at h; cases h
      · cases h1 : (rec (pl ++ [(j : Int)]) (left - 1)).found
        · cases h2 : (rec (pl ++ [(j : Int)]) (left - 1)).spent
          · exact next _ (try_next g h0 h1 h2)
          · rw [try_deep g h0 h1 h2] at h; cases h
        · exact ⟨j, left - 1, Nat.le_refl _, by omega, g, try_found g h0 h1⟩
    · exact next _ (try_skip g)
theorem try_miss : ∀ n j left, (tryB rec ok pl n j left).found = false → (tryB rec ok pl n j left).spent = false → ∀ b, j ≤ b → b < j + n → ok b → ∃ l, (rec (pl ++ [(b : Int)]) l).found = false ∧ (rec (pl ++ [(b : Int)]) l).spent = false
  | 0, j, left, _, _ => fun b h1 h2 => by omega
  | n + 1, j, left, hf, hs => by
    by_cases g : ok j
    · by_cases h0 : left = 0
      · rw [try_spent g h0] at hs; cases hs
      · cases h1 : (rec (pl ++ [(j : Int)]) (left - 1)).found
        · cases h2 : (rec (pl ++ [(j : Int)]) (left - 1)).spent
          · rw [try_next g h0 h1 h2] at hf hs
            intro b hb1 hb2 hb
            by_cases e : b = j
            · subst e; exact ⟨left - 1, h1, h2⟩
            · exact try_miss n (j + 1) _ hf hs b (by omega) (by omega) hb
          · rw [try_deep g h0 h1 h2] at hs; cases hs
        · rw [try_found g h0 h1, h1] at hf; cases hf
    · rw [try_skip g] at hf hs
      intro b hb1 hb2 hb
      by_cases e : b = j
      · subst e; exact absurd hb g
      · exact try_miss n (j + 1) _ hf hs b (by omega) (by omega) hb
end

theorem good_nil (bays : List BayD) (list : List CasD) : Good bays list [] := fun k h => absurd h (Nat.not_lt_zero _)
theorem good_snoc {bays : List BayD} {list : List CasD} {pl : List Int} {b : Nat} (h : Good bays list pl) (hb : b < bays.length) (hc : canP bays list pl pl.length b) : Good bays list (pl ++ [(b : Int)]) := fun k hk => by
  rw [List.length_append, List.length_singleton] at hk
  by_cases e : k = pl.length
  · subst e
    refine ⟨b, hb, by simp [List.getD_eq_getElem?_getD], ?_⟩
    rw [List.take_left' rfl]; exact hc
  · obtain ⟨c, h1, h2, h3⟩ := h k (by omega)
    refine ⟨c, h1, ?_, ?_⟩
    · rw [List.getD_eq_getElem?_getD, List.getElem?_append_left (by omega), ← List.getD_eq_getElem?_getD]; exact h2
    · rw [List.take_append_of_le_length (by omega)]; exact h3
theorem run_sound (bays : List BayD) (list : List CasD) (m : Nat) : ∀ d pl left, Good bays list pl → kd pl ≤ m → (runB bays list m d pl left).found = true → Good bays list (runB bays list m d pl left).pl ∧ kd (runB bays list m d pl left).pl ≤ m ∧ (runB bays list m d pl left).pl.length = pl.length + d
  | 0, pl, left, h1, h2, _ => ⟨h1, h2, rfl⟩
  | d + 1, pl, left, h1, h2, hf => by
    obtain ⟨b, l, _, g1, ⟨g2, g3⟩, g4⟩ := try_hit _ _ _ hf
    have e : runB bays list m (d + 1) pl left = runB bays list m d (pl ++ [(b : Int)]) l := g4
    rw [e] at hf ⊢
    have := run_sound bays list m d (pl ++ [(b : Int)]) l (good_snoc h1 (by omega) g3) (by
      by_cases g : (b : Int) ∈ pl
      · refine Nat.le_trans (kd_sub fun x hx => ?_) h2
        rcases List.mem_append.1 hx with hx | hx
        · exact hx
        · rw [List.mem_singleton.1 hx]; exact g
      · have := g2.resolve_left g
        have := kd_snoc pl b
        unfold kd at *; omega) hf
    refine ⟨this.1, this.2.1, ?_⟩
    rw [this.2.2, List.length_append, List.length_singleton]; omega
theorem run_whole (bays : List BayD) (list : List CasD) (m : Nat) : ∀ d pl left, (runB bays list m d pl left).found = false → (runB bays list m d pl left).spent = false → ∀ q, Good bays list q → q.length = pl.length + d → q.take pl.length = pl → ¬ kd q ≤ m
  | 0, pl, left, hf, _ => by cases hf
  | d + 1, pl, left, hf, hs => by
    intro q hq hl ht hk
    obtain ⟨b, b1, b2, b3⟩ := hq pl.length (by omega)
    rw [ht] at b3
    have hlt : pl.length < q.length := by omega
    have eb : q[pl.length] = (b : Int) := by rw [← b2, List.getD_eq_getElem?_getD, List.getElem?_eq_getElem hlt]; rfl
    have ht2 : q.take (pl.length + 1) = pl ++ [(b : Int)] := by rw [List.take_succ_eq_append_getElem hlt, ht, eb]
    have hk2 : kd (pl ++ [(b : Int)]) ≤ m := Nat.le_trans (kd_sub fun x hx => by rw [← ht2] at hx; exact List.mem_of_mem_take hx) hk
    have hok : okP bays list m pl b := by
      refine ⟨?_, b3⟩
      by_cases g : (b : Int) ∈ pl
      · exact .inl g
      · have := kd_fresh g; unfold kd at *; exact .inr (by omega)
    obtain ⟨l, h1, h2⟩ := try_miss bays.length 0 left hf hs b (Nat.zero_le _) (by omega) hok
    exact run_whole bays list m d (pl ++ [(b : Int)]) l h1 h2 q hq (by rw [List.length_append, List.length_singleton]; omega) (by rw [List.length_append, List.length_singleton]; exact ht2) hk

theorem few_hit (bays : List BayD) (list : List CasD) : ∀ n m left, (fewB bays list n m left).1.found = true → m ≤ (fewB bays list n m left).2 ∧ (fewB bays list n m left).2 < m + n ∧ (∃ l, (fewB bays list n m left).1 = runB bays list (fewB bays list n m left).2 list.length [] l) ∧ ∀ k, m ≤ k → k < (fewB bays list n m left).2 → ∃ l, (runB bays list k list.length [] l).found = false ∧ (runB bays list k list.length [] l).spent = false
  | 0, m, left, h => by cases h
  | n + 1, m, left, h => by
    cases h1 : (runB bays list m list.length [] left).found
    · cases h2 : (runB bays list m list.length [] left).spent
      · rw [few_next h1 h2] at h ⊢
        obtain ⟨a1, a2, a3, a4⟩ := few_hit bays list n (m + 1) _ h
        refine ⟨by omega, by omega, a3, fun k k1 k2 => ?_⟩
        by_cases e : k = m
        · subst e; exact ⟨left, h1, h2⟩
        · exact a4 k (by omega) k2
      · rw [few_spent h1 h2] at h; cases h
    · rw [few_found h1]
      exact ⟨Nat.le_refl _, by simp only; omega, ⟨left, rfl⟩, fun k k1 k2 => absurd k2 (by simp only; omega)⟩
theorem few_miss (bays : List BayD) (list : List CasD) : ∀ n m left, (fewB bays list n m left).1.found = false → (fewB bays list n m left).1.spent = false → ∀ k, m ≤ k → k < m + n → ∃ l, (runB bays list k list.length [] l).found = false ∧ (runB bays list k list.length [] l).spent = false
  | 0, m, left, _, _ => fun k h1 h2 => by omega
  | n + 1, m, left, hf, hs => by
    cases h1 : (runB bays list m list.length [] left).found
    · cases h2 : (runB bays list m list.length [] left).spent
      · rw [few_next h1 h2] at hf hs
        intro k k1 k2
        by_cases e : k = m
        · subst e; exact ⟨left, h1, h2⟩
        · exact few_miss bays list n (m + 1) _ hf hs k (by omega) (by omega)
      · rw [few_spent h1 h2] at hs; cases hs
    · rw [few_found h1, h1] at hf; cases hf

/-- What the law asks of both searches. -/
structure BaysLaw (bays : List BayD) (list : List CasD) (r : Res) (f : Res × Nat) : Prop where
  first : r.found = true → r.pl.length = list.length ∧ Good bays list r.pl
  best : f.1.found = true → f.1.pl.length = list.length ∧ Good bays list f.1.pl
  some : r.found = true → f.1.found = false → f.1.spent = true
  none : r.found = false → r.spent = false → f.1.found = false
  less : r.found = true → f.1.found = true → f.2 ≤ kd r.pl
  kinds : f.1.found = true → f.2 = kd f.1.pl
theorem bays_law (bays : List BayD) (list : List CasD) (left : Nat) : BaysLaw bays list (runB bays list bays.length list.length [] left) (fewB bays list (bays.length + 1) 0 left) := by
  have z0 : kd [] = 0 := rfl
  have G := fun m l => run_sound bays list m list.length [] l (good_nil _ _) (by rw [z0]; exact Nat.zero_le _)
  have W := fun m l h1 h2 q (hq : Good bays list q) (hl : q.length = list.length) => run_whole bays list m list.length [] l h1 h2 q hq (by simpa using hl) (by simp)
  have F := few_hit bays list (bays.length + 1) 0 left
  have M := few_miss bays list (bays.length + 1) 0 left
  have gb : (fewB bays list (bays.length + 1) 0 left).1.found = true → (fewB bays list (bays.length + 1) 0 left).1.pl.length = list.length ∧ Good bays list (fewB bays list (bays.length + 1) 0 left).1.pl ∧ kd (fewB bays list (bays.length + 1) 0 left).1.pl ≤ (fewB bays list (bays.length + 1) 0 left).2 := fun h => by
    obtain ⟨a1, a2, ⟨l, a3⟩, a4⟩ := F h
    rw [a3] at h
    obtain ⟨g1, g2, g3⟩ := G _ l h
    rw [← a3] at g1 g2 g3
    exact ⟨by simpa using g3, g1, g2⟩
  refine ⟨fun h => ?_, fun h => ⟨(gb h).1, (gb h).2.1⟩, fun h h1 => ?_, fun h1 h2 => ?_, fun h h1 => ?_, fun h => ?_⟩
  · obtain ⟨g1, g2, g3⟩ := G _ _ h
    exact ⟨by simpa using g3, g1⟩
  · cases h2 : (fewB bays list (bays.length + 1) 0 left).1.spent
    · obtain ⟨l, m1, m2⟩ := M h1 h2 bays.length (Nat.zero_le _) (by omega)
      obtain ⟨g1, g2, g3⟩ := G _ _ h
      exact absurd g2 (W _ l m1 m2 _ g1 (by simpa using g3))
    · rfl
  · cases h : (fewB bays list (bays.length + 1) 0 left).1.found
    · rfl
    · obtain ⟨b1, b2, b3⟩ := gb h
      obtain ⟨a1, a2, _⟩ := F h
      exact absurd (show _ ≤ bays.length by omega) (W _ left h1 h2 _ b2 b1)
  · obtain ⟨a1, a2, _, a4⟩ := F h1
    obtain ⟨g1, g2, g3⟩ := G _ _ h
    refine Nat.le_of_not_lt fun hlt => ?_
    obtain ⟨l, m1, m2⟩ := a4 _ (Nat.zero_le _) hlt
    exact absurd (Nat.le_refl _) (W _ l m1 m2 _ g1 (by simpa using g3))
  · obtain ⟨a1, a2, _, a4⟩ := F h
    obtain ⟨b1, b2, b3⟩ := gb h
    refine Nat.le_antisymm (Nat.le_of_not_lt fun hlt => ?_) b3
    obtain ⟨l, m1, m2⟩ := a4 _ (Nat.zero_le _) hlt
    exact absurd (Nat.le_refl _) (W _ l m1 m2 _ b2 b1)

end Go.Proofs.Yteaijhmgfddjiaa
