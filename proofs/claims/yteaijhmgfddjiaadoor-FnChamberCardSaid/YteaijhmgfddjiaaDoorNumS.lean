/- The reference's reading of a decimal text. Contract of l01Number. -/
import Derived.Test.YteaijhmgfddjiaaDoorNumL
import Derived.Test.YteaijhmgfddjiaaDoorName
set_option linter.unusedSimpArgs false
set_option linter.unnecessarySimpa false
set_option linter.unusedVariables false
set_option maxRecDepth 100000
namespace Go.Proofs.YteaijhmgfddjiaaDoor
open Go.RowKit

theorem num_no {l : List UInt8} (h : ¬ (Canon (body l) ∧ (body l).length ≤ 18 ∧ (l.head? = some 45 → body l ≠ [48]))) : numOk l = false ∧ numV l = 0 := by
  have : numOk l = false := decide_eq_false h
  exact ⟨this, by unfold numV; rw [this]; rfl⟩
theorem num_no_empty {l : List UInt8} (h : body l = []) : numOk l = false ∧ numV l = 0 := num_no fun g => g.1.ne h
theorem num_no_long {l : List UInt8} (h : 18 < (body l).length) : numOk l = false ∧ numV l = 0 := num_no fun g => by have := g.2.1; omega
theorem num_no_zero {l : List UInt8} (h : (body l).head? = some 48) (h1 : 1 < l.length) : numOk l = false ∧ numV l = 0 := num_no fun g => by
  have e := g.1.first h
  by_cases g45 : l.head? = some 45
  · exact g.2.2 g45 e
  · have : body l = l := if_neg g45
    rw [this] at e
    rw [e] at h1; simp at h1
theorem num_no_digit {l : List UInt8} {b : UInt8} (h : b ∈ body l) (hd : ¬ dig b) : numOk l = false ∧ numV l = 0 := num_no fun g => hd (g.1.digs b h)
theorem num_yes {l : List UInt8} (h0 : body l ≠ []) (h1 : (body l).length ≤ 18) (h2 : ¬ ((body l).head? = some 48 ∧ 1 < l.length)) (h3 : ∀ b ∈ body l, dig b) : numOk l = true := by
  have hl : l ≠ [] := fun e => by rw [e] at h0; exact h0 rfl
  refine decide_eq_true ⟨⟨h0, h3, fun e => ?_⟩, h1, fun g e => ?_⟩
  · by_cases g : l.head? = some 45
    · exfalso
      apply h2
      refine ⟨e, ?_⟩
      have hb : body l = l.drop 1 := if_pos g
      have : 0 < (l.drop 1).length := List.length_pos_iff.2 (by rw [← hb]; exact h0)
      rw [List.length_drop] at this; omega
    · have hb : body l = l := if_neg g
      rw [hb] at e ⊢
      match l, hl with
      | [x], _ => simp only [List.head?_cons, Option.some.injEq] at e; rw [e]
      | x :: y :: r, _ => exact absurd ⟨by rw [hb]; exact e, by simp⟩ h2
  · apply h2
    have hb : body l = l.drop 1 := if_pos g
    refine ⟨by rw [e]; rfl, ?_⟩
    have : (l.drop 1).length = 1 := by rw [← hb, e]; rfl
    rw [List.length_drop] at this; omega
theorem num_val {l : List UInt8} (h : numOk l = true) : numV l = if l.head? = some 45 then -(valD 0 (body l) : Int) else (valD 0 (body l) : Int) := by unfold numV; rw [if_pos h]
/-- The digits of l from a up to k, read. -/
def upto (l : List UInt8) (a k : Nat) : Nat := valD 0 ((l.take k).drop a)
theorem upto_start (l : List UInt8) (a : Nat) : upto l a a = 0 := by
  unfold upto
  rw [List.drop_eq_nil_of_le (by rw [List.length_take]; omega)]; rfl
theorem upto_step {l : List UInt8} {a k : Nat} (hk : k < l.length) (ha : a ≤ k) : upto l a (k + 1) = upto l a k * 10 + (l[k].toNat - 48) := by
  unfold upto
  rw [List.take_succ_eq_append_getElem hk, List.drop_append_of_le_length (by rw [List.length_take]; omega), valD_snoc]
def digsTo (l : List UInt8) (a k : Nat) : Prop := ∀ b ∈ (l.take k).drop a, dig b
theorem digsTo_start (l : List UInt8) (a : Nat) : digsTo l a a := by
  unfold digsTo
  rw [List.drop_eq_nil_of_le (by rw [List.length_take]; omega)]; intro b hb; cases hb
theorem digsTo_step {l : List UInt8} {a k : Nat} (h : digsTo l a k) (hk : k < l.length) (ha : a ≤ k) (hd : dig l[k]) : digsTo l a (k + 1) := by
  unfold digsTo at *
  rw [List.take_succ_eq_append_getElem hk, List.drop_append_of_le_length (by rw [List.length_take]; omega)]
  intro b hb
  rcases List.mem_append.1 hb with hb | hb
  · exact h b hb
  · rw [List.mem_singleton.1 hb]; exact hd
theorem upto_lt {l : List UInt8} {a k : Nat} (h : digsTo l a k) (hk : k ≤ a + 17) : upto l a k < 100000000000000000 := by
  have h1 := valD_lt _ h
  have h2 : 10 ^ ((l.take k).drop a).length ≤ 10 ^ 17 := Nat.pow_le_pow_right (by omega) (by rw [List.length_drop, List.length_take]; omega)
  unfold upto
  omega
theorem mem_drop {l : List UInt8} {a k : Nat} (h : k < l.length) (ha : a ≤ k) : l[k] ∈ l.drop a := by
  rw [List.mem_iff_getElem?]
  exact ⟨k - a, by rw [List.getElem?_drop, show a + (k - a) = k by omega, List.getElem?_eq_getElem h]⟩
theorem digC (b : UInt8) : digitC (b.toNat : Int) ↔ dig b := by unfold digitC dig; omega

end Go.Proofs.YteaijhmgfddjiaaDoor
