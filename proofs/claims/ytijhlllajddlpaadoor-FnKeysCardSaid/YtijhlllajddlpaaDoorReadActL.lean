/- Which texts stand for an action, and for which. Plain. -/
import Derived.Test.YtijhlllajddlpaaDoorReadL
import Derived.Test.YtijhlllajddlpaaDoorActText
set_option linter.unusedSimpArgs false
set_option linter.unnecessarySimpa false
set_option linter.unusedVariables false
set_option maxRecDepth 100000
namespace Go.Proofs.YtijhlllajddlpaaDoor
open Go.RowKit

def pairs : List Int → List Lev
  | a :: b :: r => ⟨a, b⟩ :: pairs r
  | _ => []
def actOf (n : List Int) : ActD := ⟨n.getD 0 0, pairs (n.drop 3), n.getD 1 0, n.getD 2 0⟩
def shapeOk (n : List Int) : Prop := 3 ≤ n.length ∧ n.length % 2 = 1
instance (n : List Int) : Decidable (shapeOk n) := by unfold shapeOk; infer_instance
theorem pairs_nums : ∀ (k : Nat) (n : List Int), n.length = 2 * k → levNums (pairs n) = n ∧ (pairs n).length = k
  | 0, n, h => by
    have : n = [] := List.eq_nil_of_length_eq_zero (by omega)
    subst this; exact ⟨rfl, rfl⟩
  | k + 1, n, h => by
    match n, h with
    | a :: b :: r, h =>
      obtain ⟨h1, h2⟩ := pairs_nums k r (by simp at h; omega)
      refine ⟨?_, by simp [pairs, h2]⟩
      simp only [pairs, levNums, List.flatMap_cons] at h1 ⊢
      rw [h1]; rfl
    | [a], h => exact absurd h (by simp only [List.length_cons, List.length_nil]; omega)
    | [], h => simp at h
theorem actOf_list {n : List Int} (h : shapeOk n) : actL (actOf n) (actOf n).levs.length = n ∧ 2 * (actOf n).levs.length + 3 = n.length := by
  obtain ⟨h1, h2⟩ := h
  match n, h1, h2 with
  | a :: b :: c :: r, h1, h2 =>
    simp only [List.length_cons] at h2
    obtain ⟨h3, h4⟩ := pairs_nums (r.length / 2) r (by omega)
    have e : actOf (a :: b :: c :: r) = ⟨a, pairs r, b, c⟩ := rfl
    rw [e]
    refine ⟨?_, by simp only [h4, List.length_cons]; omega⟩
    unfold actL
    simp only [List.take_length, h3]; rfl
noncomputable def rdB (s : ByteArray) : Bool := decide (rlB s = true ∧ shapeOk (rlV s) ∧ ActOk (actOf (rlV s)))
noncomputable def rdV (s : ByteArray) : ActD := if rdB s = true then actOf (rlV s) else ⟨0, [], 0, 0⟩
theorem rd_yes {s : ByteArray} (h1 : rlB s = true) (h2 : shapeOk (rlV s)) (h3 : ActOk (actOf (rlV s))) : rdB s = true ∧ rdV s = actOf (rlV s) := by
  have : rdB s = true := decide_eq_true ⟨h1, h2, h3⟩
  exact ⟨this, if_pos this⟩
theorem rd_no {s : ByteArray} (h : ¬ (rlB s = true ∧ shapeOk (rlV s) ∧ ActOk (actOf (rlV s)))) : rdB s = false ∧ rdV s = ⟨0, [], 0, 0⟩ := by
  have : rdB s = false := decide_eq_false h
  exact ⟨this, if_neg (by rw [this]; simp)⟩
theorem rdV_len (s : ByteArray) : (rdV s).levs.length ≤ 6 := by
  unfold rdV
  split
  · rename_i h
    exact (of_decide_eq_true h).2.2.len
  · simp
theorem rdV_nums (s : ByteArray) : (rdV s).ok := by
  have z : I64 0 := i64_val (by unfold isVal; omega)
  unfold rdV
  split
  · rename_i h
    have ha := (of_decide_eq_true h).2.2
    have hv := actL_vals ha
    have i : ∀ n ∈ actL (actOf (rlV s)) (actOf (rlV s)).levs.length, I64 n := fun n hn => i64_val (hv n hn)
    refine ⟨i _ (by simp [actL]), i _ (by simp [actL]), i _ (by simp [actL]), fun l hl => ⟨i _ ?_, i _ ?_⟩⟩
    · unfold actL levNums
      rw [List.take_length]
      exact List.mem_append_right _ (List.mem_flatMap.2 ⟨l, hl, by simp⟩)
    · unfold actL levNums
      rw [List.take_length]
      exact List.mem_append_right _ (List.mem_flatMap.2 ⟨l, hl, by simp⟩)
  · exact ⟨z, z, z, fun l hl => by cases hl⟩
/-- The program writes the action again: it is the text that was read. -/
theorem act_again {s : ByteArray} (h1 : rlB s = true) (h2 : shapeOk (rlV s)) (h3 : ActOk (actOf (rlV s))) : actT (actOf (rlV s)) = s := by
  rw [actT_yes (by simpa [validActB] using h3), (actOf_list h2).1]
  by_cases hd : s = bytesB [45]
  · rw [(rl_dash hd).2] at h2
    unfold shapeOk at h2; simp at h2
  · cases hn : numsB (pieces s) with
    | false => rw [(rl_no hd hn).1] at h1; cases h1
    | true =>
      rw [(rl_yes hd hn).2]
      have := list_again.2 hn
      obtain ⟨h4, h5⟩ := of_decide_eq_true hn
      rwa [listT_yes (by simpa using h4) (decide_eq_true fun n hn => by
        obtain ⟨p, hp, rfl⟩ := List.mem_map.1 hn
        exact (h5 p hp).2)] at this

end Go.Proofs.YtijhlllajddlpaaDoor
