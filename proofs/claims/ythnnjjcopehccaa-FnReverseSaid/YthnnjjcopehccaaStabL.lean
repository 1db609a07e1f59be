/- Rows cut in blocks that are each in order. No program in sight. Then symMerge for all lengths. -/
import Derived.Test.YthnnjjcopehccaaSymC
set_option linter.unusedSimpArgs false
set_option linter.unnecessarySimpa false
set_option linter.unusedVariables false
namespace Go.Proofs.Ythnnjjcopehccaa
open Go.RowKit

inductive Blk (k : Nat) : List Ton → Prop
  | last (S : List Ton) : Srt S → S.length ≤ k → Blk k S
  | cons (S R : List Ton) : Srt S → S.length = k → Blk k R → Blk k (S ++ R)
/-- Whole blocks alone. -/
def Full (k : Nat) (P : List Ton) : Prop := ∀ Q, Blk k Q → Blk k (P ++ Q)
theorem full_nil (k : Nat) : Full k [] := fun Q h => h
theorem Full.snoc {k : Nat} {P S : List Ton} (h : Full k P) (hs : Srt S) (hl : S.length = k) : Full k (P ++ S) := fun Q hQ => by
  rw [List.append_assoc]; exact h _ (.cons S Q hs hl hQ)
theorem Blk.nil (k : Nat) : Blk k [] := .last [] srt_nil (Nat.zero_le _)
theorem Blk.all {k : Nat} {d : List Ton} (h : Blk k d) (hl : d.length ≤ k) : Srt d := by
  cases h with
  | last _ h _ => exact h
  | cons S R h1 h2 h3 =>
    rw [List.length_append] at hl
    rw [List.eq_nil_of_length_eq_zero (l := R) (by omega), List.append_nil]; exact h1
theorem Blk.two {k : Nat} {d : List Ton} (hk : 0 < k) (h : Blk k d) (hl : 2 * k ≤ d.length) : ∃ L R Q, d = L ++ (R ++ Q) ∧ L.length = k ∧ R.length = k ∧ Srt L ∧ Srt R ∧ Blk k Q := by
  cases h with
  | last _ h g => omega
  | cons S R h1 h2 h3 =>
    rw [List.length_append] at hl
    cases h3 with
    | last _ h g => exact ⟨S, R, [], by simp, h2, by omega, h1, h, Blk.nil k⟩
    | cons S' R' g1 g2 g3 => exact ⟨S, S', R', rfl, h2, g2, h1, g1, g3⟩
theorem Blk.tail {k : Nat} {d : List Ton} (hk : 0 < k) (h : Blk k d) (hl : d.length < 2 * k) (hl2 : k < d.length) : ∃ L R, d = L ++ R ∧ L.length = k ∧ 0 < R.length ∧ Srt L ∧ Srt R := by
  cases h with
  | last _ h g => omega
  | cons S R h1 h2 h3 =>
    rw [List.length_append] at hl hl2
    exact ⟨S, R, rfl, h2, by omega, h1, h3.all (by omega)⟩

theorem symM_any (base g n cap : Nat) (hn : n ≤ 1000000) : ∀ N, SymIH base g n cap N := by
  intro N
  induction N with
  | zero => intro a m b A L R C w h ha hm hb hL hR hlt; omega
  | succ N ih =>
    intro a m b A L R C w h ha hm hb hL hR hlt sL sR
    by_cases l1 : L.length = 1
    · obtain ⟨x, rfl⟩ := List.length_eq_one_iff.1 l1
      exact symA_any base g n cap a m b A R C x w h hn ha (by simpa using hm) hb sR
    · by_cases r1 : R.length = 1
      · obtain ⟨x, rfl⟩ := List.length_eq_one_iff.1 r1
        exact symB_any base g n cap a m b A L C x w h hn ha hm (by simpa using hb) sL l1
      · exact symC_any base g n cap a m b A L R C w h hn ha hm hb (by omega) (by omega) sL sR (fun a' m' b' A' L' R' C' w' k1 k2 k3 k4 k5 k6 k7 k8 k9 => ih a' m' b' A' L' R' C' w' k1 k2 k3 k4 k5 k6 (by omega) k8 k9)

end Go.Proofs.Ythnnjjcopehccaa
