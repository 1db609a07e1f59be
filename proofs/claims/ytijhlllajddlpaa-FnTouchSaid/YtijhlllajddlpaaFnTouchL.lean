/- Even weights: what the law FnTouch asks of them. Plain. -/
import Derived.Test.YtijhlllajddlpaaEven
import Derived.Test.YtijhlllajddlpaaUneven
import Derived.Test.YtijhlllajddlpaaKeyFor
import Derived.Test.YtijhlllajddlpaaDraw24
set_option linter.unusedSimpArgs false
set_option linter.unnecessarySimpa false
set_option linter.unusedVariables false
set_option maxRecDepth 100000
namespace Go.Proofs.Ytijhlllajddlpaa
open Go.RowKit

theorem even_ex {ls : List Lev} {lim : Int} (ok : armsOk ls) (hl : 0 ≤ lim) : ∃ u, IsEven ls lim u := by
  have key : ∀ n : Nat, ∃ u : Int, 0 ≤ u ∧ u ≤ n ∧ fits ls lim u ∧ (u < n → ¬ fits ls lim (u + 1)) := by
    intro n
    induction n with
    | zero => exact ⟨0, by omega, by omega, by unfold fits; rw [heave_zero ls ok]; omega, by omega⟩
    | succ n ih =>
      obtain ⟨u, h0, h1, h2, h3⟩ := ih
      by_cases g : fits ls lim ((n : Int) + 1)
      · exact ⟨(n : Int) + 1, by omega, by omega, g, by omega⟩
      · refine ⟨u, h0, by omega, h2, fun hlt => ?_⟩
        by_cases e : u = n
        · rw [e]; exact g
        · exact h3 (by omega)
  obtain ⟨u, h0, h1, h2, h3⟩ := key 1000000
  exact ⟨u, h0, by omega, h2, fun h => h3 (by omega)⟩
theorem evenW_is {ls : List Lev} {lim : Int} (ok : armsOk ls) (hl : 0 ≤ lim) : IsEven ls lim (evenW ls lim) := by
  obtain ⟨u, h⟩ := even_ex ok hl
  rw [evenW_eq ok h]; exact h
theorem even_ok {x : ActD} {lim : Int} (h : ActOk x) (hl : limOk lim) : ActOk (evenA lim x) := by
  have e := evenW_is h.arms hl.1
  exact ⟨h.note, h.len, h.arms, h.slack, ⟨e.1, e.2.1⟩⟩
theorem evens_clav {xs : List ActD} {lim : Int} (h : clavB xs = true) (hl : limOk lim) : clavB (evens xs lim) = true := by
  rw [clavB_iff] at h ⊢
  have e : (evens xs lim).length = xs.length := by simp [evens]
  refine ⟨fun k hk hk2 => ?_, by rw [e]; exact h.len⟩
  rw [e] at hk
  obtain ⟨h1, h2⟩ := h.all k hk hk
  simp only [evens, List.getElem_map]
  exact ⟨even_ok h1 hl, h2⟩
theorem even_touch {x : ActD} {lim : Int} (h : ActOk x) (hl : limOk lim) : touchOfC (evenA lim x) = 0 ∧ 0 ≤ touchOfV (evenA lim x) ∧ touchOfV (evenA lim x) ≤ lim := by
  have e := evenW_is h.arms hl.1
  have hv := validActB_iff.2 (even_ok h hl)
  obtain ⟨f0, f1⟩ := e.2.2.1
  unfold touchOfC touchOfV
  rw [hv, if_pos rfl, if_pos rfl]
  have e1 : heave (evenA lim x).levs (evenA lim x).weight = heave x.levs (evenW x.levs lim) := rfl
  rw [e1, if_neg (by omega), if_neg (by omega)]
  exact ⟨rfl, f0, f1⟩
/-- One gram more. -/
noncomputable def heavy (lim : Int) (x : ActD) : ActD := { x with weight := evenW x.levs lim + 1 }
theorem heavy_touch {x : ActD} {lim : Int} (h : ActOk x) (hl : limOk lim) (hw : evenW x.levs lim ≠ 1000000) : touchOfC (heavy lim x) = 0 → lim < touchOfV (heavy lim x) := by
  have e := evenW_is h.arms hl.1
  have e2 := e.2.1
  have hok : ActOk (heavy lim x) := ⟨h.note, h.len, h.arms, h.slack, ⟨by have := e.1; simp only [heavy]; omega, by simp only [heavy]; omega⟩⟩
  have hv := validActB_iff.2 hok
  have nf := e.2.2.2 (by omega)
  unfold touchOfC touchOfV
  rw [hv, if_pos rfl, if_pos rfl]
  have e1 : heave (heavy lim x).levs (heavy lim x).weight = heave x.levs (evenW x.levs lim + 1) := rfl
  rw [e1]
  intro hc
  by_cases g : heave x.levs (evenW x.levs lim + 1) < 0
  · rw [if_pos g] at hc; cases hc
  · rw [if_neg g]
    unfold fits at nf
    omega
theorem clav_note {xs : List ActD} (h : ClavOk xs) : ∀ (j i : Nat) (hj : j < xs.length) (hi : i < j), (xs[i]'(by omega)).note < xs[j].note := by
  intro j
  induction j with
  | zero => intro i hj hi; omega
  | succ j ih =>
    intro i hj hi
    have h1 := (h.all (j + 1) hj hj).2 (by omega)
    simp only [Nat.add_sub_cancel] at h1
    by_cases e : i = j
    · subst e; exact h1
    · have := ih i (by omega) (by omega); omega
theorem key_at {xs : List ActD} (h : clavB xs = true) {k : Nat} (hk : k < xs.length) : keyV xs xs[k].note = k ∧ keyC xs xs[k].note = 0 := by
  have ho := clavB_iff.1 h
  have e : keyI xs xs[k].note = k := firstIdx_some hk (fun i hi hik => by
    have := clav_note ho k i hk hik
    unfold hasNote; omega) rfl
  obtain ⟨h1, h2⟩ := key_hit h e
  exact ⟨h1.symm, h2.symm⟩
theorem even_uneven {xs : List ActD} {lim : Int} (h : clavB xs = true) (hl : limOk lim) : unV (evens xs lim) lim = [] ∧ unC (evens xs lim) lim = 0 := by
  have ho := clavB_iff.1 h
  have e : (evens xs lim).length = xs.length := by simp [evens]
  have ht : ∀ k, k < xs.length → 0 ≤ tAt (evens xs lim) k ∧ tAt (evens xs lim) k ≤ lim := fun k hk => by
    rw [tAt_eq (by rw [e]; exact hk)]
    simp only [evens, List.getElem_map]
    exact (evenW_is (ho.ok hk).arms hl.1).2.2.1
  have hf : fineTo (evens xs lim) (evens xs lim).length := fun i hi => (ht i (by rw [e] at hi; exact hi)).1
  obtain ⟨u1, u2⟩ := un_yes (evens_clav h hl) hl hf
  refine ⟨?_, u2⟩
  rw [u1, e]
  have key : ∀ n, n ≤ xs.length → unTo (evens xs lim) lim n = [] := by
    intro n
    induction n with
    | zero => intro _; rfl
    | succ n ih =>
      intro hn
      rw [unTo_no, ih (by omega)]
      rintro ⟨h0, h1⟩
      have a := ht n (by omega)
      have b := ht (n - 1) (by omega)
      unfold absI at h1
      split at h1 <;> omega
  exact key _ (Nat.le_refl _)
/-- Small actions are readable by all. -/
theorem sm_okActs {xs : List ActD} (h : ∀ x ∈ xs, smA x) : okActs xs := fun x hx => by
  have s := h x hx
  have c : ∀ n, smN n → I64 n := fun n hn => by unfold smN at hn; simp only [I64, Lit.wf, IntKind.min, IntKind.max, IntKind.signed, IntKind.bits]; simp; omega
  exact ⟨c _ s.note, c _ s.slack, c _ s.weight, fun l hl => ⟨c _ (s.levs l hl).1, c _ (s.levs l hl).2⟩⟩
theorem sm_sz {xs : List ActD} (h : ∀ x ∈ xs, smA x) (hl : xs.length ≤ 49) : szActs xs ≤ 1000 := by
  have key : ∀ k, k ≤ xs.length → levSum xs k ≤ 8 * k := by
    intro k
    induction k with
    | zero => intro _; simp [levSum]
    | succ k ih =>
      intro hk
      rw [levSum_step (by omega)]
      have := ih (by omega)
      have := (h _ (List.getElem_mem (show k < xs.length by omega))).len
      omega
  have := key _ (Nat.le_refl _)
  unfold szActs; omega
theorem evens_sm {xs : List ActD} {lim : Int} (h : ∀ x ∈ xs, smA x) (ho : clavB xs = true) (hl : limOk lim) : ∀ x ∈ evens xs lim, smA x := fun x hx => by
  simp only [evens, List.mem_map] at hx
  obtain ⟨y, hy, rfl⟩ := hx
  have s := h y hy
  obtain ⟨k, hk, rfl⟩ := List.getElem_of_mem hy
  have e := evenW_is ((clavB_iff.1 ho).ok hk).arms hl.1
  exact ⟨s.note, s.slack, by have := e.1; have := e.2.1; simp only [evenA]; unfold smN; omega, s.levs, s.len⟩

end Go.Proofs.Ytijhlllajddlpaa
