/- How an argument that is a slice of small structs is opened: generic, no program in sight. -/
import Derived.Test.YteaijhmgfddjiaaMem
import Derived.ProofKit
import Derived.OpenShut
import Derived.Deep.Slices
import Derived.Deep.Strs
import Derived.Lib.SmallJoins
set_option linter.unusedSimpArgs false
set_option linter.unnecessarySimpa false
set_option linter.unusedVariables false
namespace Go.Proofs.Yteaijhmgfddjiaa
open Go.ChangeShapes Go.WideShapes Go.ChangeAt Go.RowKit Go.Deep

theorem len2 : ∀ (l : List Value), l.length = 2 → ∃ a b, l = [a, b]
  | [a, b], _ => ⟨a, b, rfl⟩
theorem len3 : ∀ (l : List Value), l.length = 3 → ∃ a b c, l = [a, b, c]
  | [a, b, c], _ => ⟨a, b, c, rfl⟩

section
variable {H : Type} {enc : TypeId × Value → H} {P : Program} {W : World}

theorem flat_get {α : Type} {f : α → List Value} {m : Nat} (hf : ∀ x, (f x).length = m) (xs : List α) (k r : Nat) (hk : k < xs.length) (hr : r < m) : (xs.flatMap f)[k * m + r]? = (f xs[k])[r]? := by
  have h : r < (f xs[k]).length := by rw [hf]; exact hr
  rw [flat_at hf xs k r hk hr (List.getElem?_eq_getElem h), List.getElem?_eq_getElem h]

/-- An argument that is a slice of T's, T's cells being read by 'one'. -/
theorem open_structs {α : Type} (f : α → List Value) (R : α → Prop) (m : Nat) (hm : 0 < m) (hf : ∀ x, (f x).length = m) {t e : TypeId} (ht : P.underlying t = some (.slice e)) (hc : P.cellsOf e = m)
    (one : ∀ (n : Nat) (cs : List Value) (y : DataW H × List MemPlace), DataW.trod enc P W 0 (fun _ => true) true n e cs = some y → ∃ x : α, cs = f x ∧ R x)
    {v : Value} {n : Nat} {y : DataW H × List MemPlace} (h : DataW.trod enc P W 0 (fun _ => true) true n t [v] = some y) :
    ∃ xs : List α, Sl W v xs.length (xs.flatMap f) ∧ ∀ x ∈ xs, R x := by
  rcases open_slice ht h with ⟨hcs, _⟩ | ⟨a, len, cap, m', n', D, Pl, hcs, _, hl, hmx, hm', _, hx⟩
  · simp only [List.cons.injEq, and_true] at hcs
    subst hcs
    exact ⟨[], ⟨none, 0, rfl, Nat.le_refl _, by simp [maxLen], fun j u hu => by simp at hu⟩, by simp⟩
  · simp only [List.cons.injEq, and_true] at hcs
    subst hcs
    simp only [if_true] at hm'
    rw [hc] at hx
    have hx' : ∀ i, i < len → ∃ x : α, W.cells? 0 (a.add (i * m)) m = some (f x) ∧ R x := fun i hi => by
      obtain ⟨cs', h1, h2⟩ := hx i (by omega)
      obtain ⟨x, rfl, hr⟩ := one _ _ _ h2
      exact ⟨x, h1, hr⟩
    by_cases h0 : len = 0
    · subst h0
      exact ⟨[], ⟨some a, cap, rfl, hl, hmx, fun j u hu => by simp at hu⟩, by simp⟩
    · obtain ⟨x0, _, _⟩ := hx' 0 (by omega)
      have : Nonempty α := ⟨x0⟩
      obtain ⟨X, hX⟩ : ∃ X : Nat → α, ∀ i, i < len → W.cells? 0 (a.add (i * m)) m = some (f (X i)) ∧ R (X i) :=
        ⟨fun i => if hi : i < len then Classical.choose (hx' i hi) else x0, fun i hi => by simp only [dif_pos hi]; exact Classical.choose_spec (hx' i hi)⟩
      have hspot : a.spot = none := by
        obtain ⟨h1, _⟩ := hX 0 (by omega)
        obtain ⟨_, hlen, hcell⟩ := World.cells?_some h1
        have h2 := hcell 0 hm
        rw [List.getElem?_eq_getElem (by rw [hlen]; exact hm)] at h2
        have := World.cell?_spot h2
        simpa [Addr.add] using this
      obtain ⟨b, off, spot⟩ := a
      simp only at hspot
      subst hspot
      have hlen : ((List.range len).map X).length = len := by simp
      refine ⟨(List.range len).map X, ⟨some ⟨b, off, none⟩, cap, by rw [hlen], by rw [hlen]; exact hl, hmx, fun j u hu => ⟨b, off, rfl, ?_⟩⟩, fun x hxm => ?_⟩
      · have hj : j < len * m := by have := (List.getElem?_eq_some_iff.1 hu).1; rw [flat_len hf, hlen] at this; exact this
        have hk : j / m < len := Nat.div_lt_of_lt_mul (by rw [Nat.mul_comm]; exact hj)
        have hr : j % m < m := Nat.mod_lt _ hm
        have hjm : j / m * m + j % m = j := by rw [Nat.mul_comm]; exact Nat.div_add_mod j m
        obtain ⟨h1, _⟩ := hX (j / m) hk
        obtain ⟨_, _, hcell⟩ := World.cells?_some h1
        have h2 := hcell (j % m) hr
        rw [Addr.add_lit, Addr.add_lit, Nat.add_assoc, hjm] at h2
        rw [h2, ← hu]
        have h3 := flat_get hf ((List.range len).map X) (j / m) (j % m) (by rw [hlen]; exact hk) hr
        rw [hjm] at h3
        rw [h3]
        simp
      · obtain ⟨i, hi, rfl⟩ := List.mem_map.1 hxm
        exact (hX i (by simpa using hi)).2

end
end Go.Proofs.Yteaijhmgfddjiaa
