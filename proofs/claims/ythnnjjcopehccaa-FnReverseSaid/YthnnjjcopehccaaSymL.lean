/- What the parts of a merge of two rows in order owe one another. No program in sight. -/
import Derived.Test.YthnnjjcopehccaaSymB
set_option linter.unusedSimpArgs false
set_option linter.unnecessarySimpa false
set_option linter.unusedVariables false
namespace Go.Proofs.Ythnnjjcopehccaa
open Go.RowKit

def loOk (L R : List Ton) (M s : Nat) : Prop := s = M - R.length ∨ ∃ (h1 : s - 1 < L.length) (h2 : M - s < R.length), 0 < s ∧ leT L[s - 1] R[M - s]
def hiOk (L R : List Ton) (M s : Nat) : Prop := s = M ∨ s = L.length ∨ ∃ (h1 : s < L.length) (h2 : M - 1 - s < R.length), s < M ∧ before R[M - 1 - s] L[s]

theorem sym_cross {L R : List Ton} {M s : Nat} (hL : Srt L) (hR : Srt R) (h1 : loOk L R M s) (h2 : hiOk L R M s) :
    ∀ x ∈ L.take s ++ R.take (M - s), ∀ y ∈ L.drop s ++ R.drop (M - s), leT x y := by
  intro x hx y hy
  rcases List.mem_append.1 hx with hx | hx <;> rcases List.mem_append.1 hy with hy | hy
  · exact Srt.cross (a := L.take s) (b := L.drop s) (by rw [List.take_append_drop]; exact hL) x hx y hy
  · rcases h1 with h1 | ⟨a1, a2, h0, h1⟩
    · rcases Nat.eq_zero_or_pos s with h0 | h0
      · subst h0; simp at hx
      · rw [List.drop_eq_nil_of_le (by omega)] at hy; cases hy
    · obtain ⟨i, hi, rfl⟩ := List.getElem_of_mem hx
      obtain ⟨j, hj, rfl⟩ := List.getElem_of_mem hy
      rw [List.length_take] at hi; rw [List.length_drop] at hj
      rw [List.getElem_take, List.getElem_drop]
      exact leT_trans (leT_trans (srt_at hL (by omega) a1) h1) (srt_at hR (by omega) (by omega))
  · rcases h2 with h2 | h2 | ⟨a1, a2, h0, h2⟩
    · subst h2; simp at hx
    · rw [List.drop_eq_nil_of_le (by omega)] at hy; cases hy
    · obtain ⟨i, hi, rfl⟩ := List.getElem_of_mem hx
      obtain ⟨j, hj, rfl⟩ := List.getElem_of_mem hy
      rw [List.length_take] at hi; rw [List.length_drop] at hj
      rw [List.getElem_take, List.getElem_drop]
      exact leT_trans (leT_trans (srt_at hR (by omega) a2) (leT_of h2)) (srt_at hL (by omega) (by omega))
  · exact Srt.cross (a := R.take (M - s)) (b := R.drop (M - s)) (by rw [List.take_append_drop]; exact hR) x hx y hy

/-- The end of a merge. -/
theorem sym_fin {L R S1 S2 : List Ton} {M s : Nat} (hc : ∀ x ∈ L.take s ++ R.take (M - s), ∀ y ∈ L.drop s ++ R.drop (M - s), leT x y)
    (p1 : S1.Perm (L.take s ++ R.take (M - s))) (p2 : S2.Perm (L.drop s ++ R.drop (M - s))) (s1 : Srt S1) (s2 : Srt S2) : (S1 ++ S2).Perm (L ++ R) ∧ Srt (S1 ++ S2) := by
  refine ⟨?_, Srt.app s1 s2 fun x hx y hy => hc x (p1.mem_iff.1 hx) y (p2.mem_iff.1 hy)⟩
  refine (p1.append p2).trans ?_
  have e : L ++ R = (L.take s ++ L.drop s) ++ (R.take (M - s) ++ R.drop (M - s)) := by rw [List.take_append_drop, List.take_append_drop]
  rw [e]
  simp only [List.append_assoc]
  refine List.Perm.append_left _ ?_
  rw [← List.append_assoc, ← List.append_assoc (L.drop s)]
  exact List.Perm.append_right _ List.perm_append_comm
theorem srt_part {L R : List Ton} {M s : Nat} (hL : Srt L) (hR : Srt R) : Srt (L.take s) ∧ Srt (L.drop s) ∧ Srt (R.take (M - s)) ∧ Srt (R.drop (M - s)) :=
  ⟨Srt.left (b := L.drop s) (by rw [List.take_append_drop]; exact hL), Srt.right (a := L.take s) (by rw [List.take_append_drop]; exact hL), Srt.left (b := R.drop (M - s)) (by rw [List.take_append_drop]; exact hR), Srt.right (a := R.take (M - s)) (by rw [List.take_append_drop]; exact hR)⟩
theorem srt_two {P Q : List Ton} (hP : Srt P) (hQ : Srt Q) (h : P.length = 0 ∨ Q.length = 0) : Srt (P ++ Q) := by
  rcases h with h | h
  · rw [List.eq_nil_of_length_eq_zero h]; simpa using hQ
  · rw [List.eq_nil_of_length_eq_zero h]; simpa using hP
theorem sym_start (A L R C : List Ton) (M s : Nat) : A ++ (L ++ (R ++ C)) = (A ++ L.take s) ++ (L.drop s ++ (R.take (M - s) ++ (R.drop (M - s) ++ C))) := by
  have e1 : L ++ (R ++ C) = (L.take s ++ L.drop s) ++ ((R.take (M - s) ++ R.drop (M - s)) ++ C) := by rw [List.take_append_drop, List.take_append_drop]
  rw [e1]; simp only [List.append_assoc]
theorem sym_swap0 (A P Q X Y : List Ton) (h : P.length = 0 ∨ Q.length = 0) : (A ++ X) ++ (P ++ (Q ++ Y)) = (A ++ X) ++ (Q ++ (P ++ Y)) := by
  rcases h with h | h
  · rw [List.eq_nil_of_length_eq_zero h]; rfl
  · rw [List.eq_nil_of_length_eq_zero h]; rfl
theorem sym_parts {A L R C : List Ton} {M s : Nat} (hL : Srt L) (hR : Srt R) (h1 : loOk L R M s) (h2 : hiOk L R M s) (k1 : s ≤ L.length) (k2 : s ≤ M) (k3 : M - s ≤ R.length) :
    ∃ L1 L2 R1 R2, L1.length = s ∧ L2.length = L.length - s ∧ R1.length = M - s ∧ R2.length = R.length - (M - s) ∧ Srt L1 ∧ Srt L2 ∧ Srt R1 ∧ Srt R2 ∧ A ++ (L ++ (R ++ C)) = (A ++ L1) ++ (L2 ++ (R1 ++ (R2 ++ C))) ∧
      ∀ S1 S2 : List Ton, S1.Perm (L1 ++ R1) → S2.Perm (L2 ++ R2) → Srt S1 → Srt S2 → (S1 ++ S2).Perm (L ++ R) ∧ Srt (S1 ++ S2) :=
  have h := srt_part (M := M) (s := s) hL hR
  ⟨L.take s, L.drop s, R.take (M - s), R.drop (M - s), by rw [List.length_take]; omega, by rw [List.length_drop], by rw [List.length_take]; omega, by rw [List.length_drop], h.1, h.2.1, h.2.2.1, h.2.2.2, sym_start A L R C M s,
    fun S1 S2 p1 p2 s1 s2 => sym_fin (sym_cross hL hR h1 h2) p1 p2 s1 s2⟩

end Go.Proofs.Ythnnjjcopehccaa
