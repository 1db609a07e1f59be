/- A row of at most twelve places comes back after at most 60 times. Plain. -/
import Derived.Test.YtadnejajbdipoaaRowL
set_option linter.unusedSimpArgs false
set_option linter.unnecessarySimpa false
set_option linter.unusedVariables false
set_option maxRecDepth 100000
namespace Go.Proofs.Ytadnejajbdipoaa
open Go.RowKit

theorem nd_len : ∀ (l m : List Nat), l.Nodup → (∀ x ∈ l, x ∈ m) → l.length ≤ m.length
  | [], _, _, _ => Nat.zero_le _
  | a :: l, m, hn, hs => by
    have hn' := List.nodup_cons.1 hn
    have ha := hs a (List.mem_cons_self ..)
    have := nd_len l (m.erase a) hn'.2 (fun x hx => (List.mem_erase_of_ne (fun e => hn'.1 (by rw [← e]; exact hx))).2 (hs x (List.mem_cons_of_mem _ hx)))
    rw [List.length_erase_of_mem ha] at this
    have hp := List.length_pos_of_mem ha
    simp only [List.length_cons]
    omega
theorem part_len (p : Nat → Bool) : ∀ l : List Nat, (l.filter p).length + (l.filter fun x => !p x).length = l.length
  | [] => rfl
  | a :: l => by
    have := part_len p l
    cases hp : p a <;> simp [List.filter_cons, hp] <;> omega
/-- Parts of different kinds fill no more than the whole. -/
theorem parts_sum (f : Nat → Nat) : ∀ (L l : List Nat), L.Nodup → (L.map fun c => (l.filter fun x => f x == c).length).sum ≤ l.length
  | [], _, _ => by simp
  | c :: L, l, hn => by
    have hn' := List.nodup_cons.1 hn
    have h1 := part_len (fun x => f x == c) l
    have h2 := parts_sum f L (l.filter fun x => !(f x == c)) hn'.2
    have e : (L.map fun d => ((l.filter fun x => !(f x == c)).filter fun x => f x == d).length) = L.map fun d => (l.filter fun x => f x == d).length := by
      refine List.map_congr_left fun d hd => ?_
      rw [List.filter_filter]
      congr 1
      refine List.filter_congr fun x _ => ?_
      by_cases g : f x = d
      · have : ¬ d = c := fun e => hn'.1 (e ▸ hd)
        simp [g, this]
      · simp [g]
    rw [e] at h2
    simp only [List.map_cons, List.sum_cons]
    omega

def subs : List Nat → List (List Nat)
  | [] => [[]]
  | a :: l => subs l ++ (subs l).map (a :: ·)
theorem filter_subs (p : Nat → Bool) : ∀ l : List Nat, l.filter p ∈ subs l
  | [] => by simp [subs]
  | a :: l => by
    have := filter_subs p l
    unfold subs
    rw [List.mem_append, List.mem_map]
    cases hp : p a
    · rw [List.filter_cons_of_neg (by simp [hp])]; exact .inl this
    · rw [List.filter_cons_of_pos hp]; exact .inr ⟨_, this, rfl⟩
def lcmL : List Nat → Nat
  | [] => 1
  | a :: l => Nat.lcm a (lcmL l)
theorem dvd_lcmL {c : Nat} : ∀ {l : List Nat}, c ∈ l → c ∣ lcmL l
  | a :: l, h => by
    rcases List.mem_cons.1 h with rfl | h
    · exact Nat.dvd_lcm_left _ _
    · exact Nat.dvd_trans (dvd_lcmL h) (Nat.dvd_lcm_right _ _)
def twelve : List Nat := [1, 2, 3, 4, 5, 6, 7, 8, 9, 10, 11, 12]
theorem landau : ∀ S ∈ subs twelve, S.sum ≤ 12 → 1 ≤ lcmL S ∧ lcmL S ≤ 60 := by
  have h : (subs twelve).all (fun S => !decide (S.sum ≤ 12) || (decide (1 ≤ lcmL S) && decide (lcmL S ≤ 60))) = true := by decide +kernel
  intro S hS hs
  have := List.all_eq_true.1 h S hS
  simpa [hs] using this

noncomputable def perN (xs : List Int) (i : Nat) : Nat := by
  classical exact if h : ∃ c, 1 ≤ c ∧ steps xs c i = i then Classical.choose (least_of h) else 0
section
variable {xs : List Int} (h : RowOk xs)
include h
theorem per_spec {i : Nat} (hi : i < xs.length) : 1 ≤ perN xs i ∧ steps xs (perN xs i) i = i ∧ (∀ j, 1 ≤ j → j < perN xs i → ¬ steps xs j i = i) ∧ perN xs i ≤ xs.length := by
  obtain ⟨c, h1, h2, h3⟩ := comes_back h hi
  have hex : ∃ c, 1 ≤ c ∧ steps xs c i = i := ⟨c, h1, h3⟩
  have hs := Classical.choose_spec (least_of hex)
  have e : perN xs i = Classical.choose (least_of hex) := by unfold perN; rw [dif_pos hex]
  rw [← e] at hs
  refine ⟨hs.1.1, hs.1.2, fun j h4 h5 h6 => hs.2 j h5 ⟨h4, h6⟩, ?_⟩
  have : ¬ c < perN xs i := fun hlt => hs.2 c hlt ⟨h1, h3⟩
  omega
theorem per_step {i a : Nat} (hi : i < xs.length) : perN xs (steps xs a i) = perN xs i := by
  obtain ⟨h1, h2, h3, _⟩ := per_spec h hi
  obtain ⟨k1, k2, k3, _⟩ := per_spec h (steps_lt h a hi)
  have e1 : steps xs (perN xs i) (steps xs a i) = steps xs a i := by rw [← steps_add, Nat.add_comm, steps_add, h2]
  have e2 : steps xs (perN xs (steps xs a i)) i = i := by
    rw [← steps_add, Nat.add_comm, steps_add] at k2
    exact steps_inj h a (steps_lt h _ hi) hi k2
  rcases Nat.lt_trichotomy (perN xs (steps xs a i)) (perN xs i) with g | g | g
  · exact absurd e2 (h3 _ k1 g)
  · exact g
  · exact absurd e1 (k3 _ h1 g)
theorem per_count {i : Nat} (hi : i < xs.length) : perN xs i ≤ ((List.range xs.length).filter fun x => perN xs x == perN xs i).length := by
  obtain ⟨h1, h2, h3, _⟩ := per_spec h hi
  have := nd_len ((List.range (perN xs i)).map fun a => steps xs a i) ((List.range xs.length).filter fun x => perN xs x == perN xs i) (by
    unfold List.Nodup
    rw [List.pairwise_map, List.pairwise_iff_getElem]
    intro a b ha hb hab e
    simp only [List.length_range] at ha hb
    simp only [List.getElem_range] at e
    have e2 : steps xs b i = steps xs a (steps xs (b - a) i) := by rw [← steps_add]; congr 1; omega
    rw [e2] at e
    exact h3 (b - a) (by omega) (by omega) (steps_inj h a hi (steps_lt h _ hi) e).symm) (by
    intro x hx
    obtain ⟨a, _, rfl⟩ := List.mem_map.1 hx
    rw [List.mem_filter]
    exact ⟨List.mem_range.2 (steps_lt h a hi), by simpa using per_step h hi⟩)
  simpa using this
theorem order_le (hn : xs.length ≤ 12) : ∃ k : Nat, k + 1 ≤ 60 ∧ pw xs k = rounds xs.length := by
  classical
  obtain ⟨S, hS⟩ : ∃ S, S = twelve.filter fun c => decide (∃ i, i < xs.length ∧ perN xs i = c) := ⟨_, rfl⟩
  have hmem : S ∈ subs twelve := by rw [hS]; exact filter_subs _ _
  have hnd : S.Nodup := by rw [hS]; exact List.Pairwise.filter _ (show twelve.Nodup by decide)
  have hle : ∀ (L : List Nat), (∀ c ∈ L, ∃ i, i < xs.length ∧ perN xs i = c) → L.sum ≤ (L.map fun c => ((List.range xs.length).filter fun x => perN xs x == c).length).sum := by
    intro L
    induction L with
    | nil => intro _; simp
    | cons c L ih =>
      intro hL
      have h2 := ih fun d hd => hL d (List.mem_cons_of_mem _ hd)
      obtain ⟨i, hi, e⟩ := hL c (List.mem_cons_self ..)
      have h1 := per_count h hi
      rw [e] at h1
      simp only [List.map_cons, List.sum_cons]
      omega
  have hs1 := hle S fun c hc => by
    rw [hS, List.mem_filter] at hc
    simpa using hc.2
  have hs2 := parts_sum (perN xs) S (List.range xs.length) hnd
  rw [List.length_range] at hs2
  obtain ⟨l1, l2⟩ := landau S hmem (by omega)
  refine ⟨lcmL S - 1, by omega, pw_rounds h fun i hi => ?_⟩
  rw [show lcmL S - 1 + 1 = lcmL S by omega]
  obtain ⟨p1, p2, _, p4⟩ := per_spec h hi
  have hin : perN xs i ∈ S := by
    rw [hS, List.mem_filter]
    refine ⟨?_, by simpa using ⟨i, hi, rfl⟩⟩
    have : perN xs i ≤ 12 := by omega
    unfold twelve
    simp only [List.mem_cons, List.not_mem_nil, or_false]
    omega
  obtain ⟨m, hm⟩ := dvd_lcmL hin
  rw [hm, Nat.mul_comm]
  exact steps_mul p2 m
theorem ord_le (hn : xs.length ≤ 12) : 1 ≤ ordV xs ∧ ordV xs ≤ 60 := by
  obtain ⟨k, e, h1, h2, _⟩ := ord_spec h
  obtain ⟨j, hj, h3⟩ := order_le h hn
  have : ¬ j < k := fun hlt => h2 j hlt h3
  omega
end

end Go.Proofs.Ytadnejajbdipoaa
