/- The row after a change. Plain. -/
import Derived.Test.YtgdfecnpkjnhnaaDoorChange
import Derived.Test.YtgdfecnpkjnhnaaDoorRowL
set_option linter.unusedSimpArgs false
set_option linter.unnecessarySimpa false
set_option linter.unusedVariables false
namespace Go.Proofs.YtgdfecnpkjnhnaaDoor
open Go.RowKit

/-- A row after a change, from place i on. -/
def applyL (ps : List Int) : Nat → List Int → List Int
  | _, [] => []
  | _, [x] => [x]
  | i, x :: y :: r => if ((i : Int) + 1) ∈ ps then x :: applyL ps (i + 1) (y :: r) else y :: x :: applyL ps (i + 2) r
termination_by _ l => l.length

theorem ap_nil (ps : List Int) (i : Nat) : applyL ps i [] = [] := by unfold applyL; rfl
theorem ap_one (ps : List Int) (i : Nat) (x : Int) : applyL ps i [x] = [x] := by unfold applyL; rfl
theorem ap_stay {ps : List Int} {i : Nat} (h : ((i : Int) + 1) ∈ ps) (x : Int) : ∀ r, applyL ps i (x :: r) = x :: applyL ps (i + 1) r
  | [] => by rw [ap_one, ap_nil]
  | y :: r => by rw [applyL]; rw [if_pos h]
theorem ap_swap {ps : List Int} {i : Nat} (h : ¬ ((i : Int) + 1) ∈ ps) (x y : Int) (r : List Int) : applyL ps i (x :: y :: r) = y :: x :: applyL ps (i + 2) r := by rw [applyL, if_neg h]
theorem ap_len (ps : List Int) : ∀ (m i : Nat) (l : List Int), l.length ≤ m → (applyL ps i l).length = l.length
  | _, _, [], _ => by rw [ap_nil]
  | _, _, [x], _ => by rw [ap_one]
  | 0, _, x :: y :: r, h => by simp at h
  | m + 1, i, x :: y :: r, h => by
    simp only [List.length_cons] at h
    by_cases g : ((i : Int) + 1) ∈ ps
    · rw [ap_stay g, List.length_cons, ap_len ps m _ _ (by simp only [List.length_cons]; omega)]; rfl
    · rw [ap_swap g, List.length_cons, List.length_cons, ap_len ps m _ _ (by omega)]; rfl

/-- Places that can follow prev in a change of n bells. -/
def goodP (n : Int) : Int → List Int → Prop
  | prev, [] => prev ≤ n ∧ (n - prev) % 2 = 0
  | prev, p :: ps => prev < p ∧ p ≤ n ∧ (p - prev) % 2 = 1 ∧ goodP n p ps
theorem good_mem {n : Int} : ∀ {ps : List Int} {prev : Int}, goodP n prev ps → ∀ p ∈ ps, prev < p
  | [], _, _, p, hp => by cases hp
  | q :: ps, prev, h, p, hp => by
    obtain ⟨h1, _, _, h4⟩ := h
    rcases List.mem_cons.1 hp with rfl | hp
    · exact h1
    · have := good_mem h4 p hp; omega
theorem good_pl {s : ByteArray} {n : Int} : ∀ (i : Nat) {ps : List Int} {last : Int}, plTo s n i = some (ps, last) → ∀ qs, goodP n last qs → goodP n 0 (ps ++ qs)
  | 0, ps, last, h, qs, g => by
    unfold plTo at h
    simp only [Option.some.injEq, Prod.mk.injEq] at h
    obtain ⟨rfl, rfl⟩ := h
    exact g
  | i + 1, ps, last, h, qs, g => by
    unfold plTo at h
    cases hp : plTo s n i with
    | none => rw [hp] at h; cases h
    | some q =>
      obtain ⟨ps', last'⟩ := q
      rw [hp] at h
      simp only at h
      split at h
      · cases h
      · rename_i hb
        simp only [Option.some.injEq, Prod.mk.injEq] at h
        obtain ⟨rfl, rfl⟩ := h
        rw [List.append_assoc]
        refine good_pl i hp _ ?_
        unfold badP at hb
        have h1 : last' < valN (byteAt s i) := by omega
        have h2 : ¬ (valN (byteAt s i) - last').tmod 2 = 0 := fun e => hb (.inr (.inr e))
        rw [Int.tmod_eq_emod_of_nonneg (by omega)] at h2
        exact ⟨h1, by omega, by omega, g⟩
theorem stay_good {s : ByteArray} {n : Int} (hn : stage n) (h : stayB s n = true) : goodP n 0 (stayV s n) := by
  unfold stage at hn
  by_cases hx : s = xB
  · obtain ⟨e1, e2⟩ := stay_x (n := n) hx
    rw [e2] at h
    rw [e1]
    simp only [beq_iff_eq] at h
    rw [Int.tmod_eq_emod_of_nonneg (by omega)] at h
    exact ⟨by omega, by omega⟩
  · cases hp : plTo s n s.size with
    | none => rw [(stay_none hx hp).2] at h; cases h
    | some q =>
      obtain ⟨ps, last⟩ := q
      by_cases h0 : s.size = 0
      · rw [(stay_empty h0).2] at h; cases h
      · obtain ⟨e1, e2⟩ := stay_some hx hp h0
        rw [e2] at h
        rw [e1]
        obtain ⟨_, l0, l12, _⟩ := pl_len _ hp
        have hln : last ≤ n := by
          cases hsz : s.size with
          | zero => exact absurd hsz h0
          | succ i =>
            rw [hsz] at hp
            unfold plTo at hp
            cases hq : plTo s n i with
            | none => rw [hq] at hp; cases hp
            | some q =>
              obtain ⟨ps', last'⟩ := q
              rw [hq] at hp
              simp only at hp
              split at hp
              · cases hp
              · rename_i hb
                simp only [Option.some.injEq, Prod.mk.injEq] at hp
                obtain ⟨_, rfl⟩ := hp
                unfold badP at hb
                omega
        unfold evenD at h
        have hw : wrap64 (n - last) = n - last := by unfold wrap64; omega
        rw [hw] at h
        simp only [beq_iff_eq] at h
        rw [Int.tmod_eq_emod_of_nonneg (by omega)] at h
        have := good_pl s.size hp [] ⟨by omega, by omega⟩
        rwa [List.append_nil] at this

/-- At place i the change still fits. -/
def fits (n : Int) (ps : List Int) (i : Nat) : Prop := ∃ (prev : Int) (rest : List Int), prev ≤ i ∧ ((i : Int) - prev) % 2 = 0 ∧ goodP n prev rest ∧ (∀ p ∈ rest, (i : Int) < p) ∧ ∀ p, (i : Int) < p → (p ∈ ps ↔ p ∈ rest)
theorem fits_start {n : Int} {ps : List Int} (h : goodP n 0 ps) : fits n ps 0 := ⟨0, ps, by simp, by simp, h, fun p hp => by simpa using good_mem h p hp, fun p _ => Iff.rfl⟩
theorem fits_stay {n : Int} {ps : List Int} {i : Nat} (h : fits n ps i) (hm : ((i : Int) + 1) ∈ ps) : fits n ps (i + 1) := by
  obtain ⟨prev, rest, h1, h2, h3, h4, h5⟩ := h
  have hr := (h5 _ (by omega)).1 hm
  cases rest with
  | nil => cases hr
  | cons p rest =>
    obtain ⟨g1, g2, g3, g4⟩ := h3
    have hp : p = (i : Int) + 1 := by
      have := h4 p (List.mem_cons_self ..)
      rcases List.mem_cons.1 hr with e | e
      · exact e.symm
      · have := good_mem g4 _ e; omega
    subst hp
    refine ⟨(i : Int) + 1, rest, by omega, by simp, g4, fun q hq => by have := good_mem g4 q hq; omega, fun q hq => ?_⟩
    rw [h5 q (by omega), List.mem_cons]
    exact ⟨fun h => h.elim (fun e => by omega) id, .inr⟩
theorem fits_swap {n : Int} {ps : List Int} {i : Nat} (h : fits n ps i) (hi : (i : Int) < n) (hm : ¬ ((i : Int) + 1) ∈ ps) : (i : Int) + 2 ≤ n ∧ fits n ps (i + 2) := by
  obtain ⟨prev, rest, h1, h2, h3, h4, h5⟩ := h
  have hr : ¬ ((i : Int) + 1) ∈ rest := fun e => hm ((h5 _ (by omega)).2 e)
  cases rest with
  | nil =>
    obtain ⟨g1, g2⟩ := h3
    refine ⟨by omega, prev, [], by omega, by omega, ⟨g1, g2⟩, by simp, fun q hq => h5 q (by omega)⟩
  | cons p rest =>
    obtain ⟨g1, g2, g3, g4⟩ := h3
    have := h4 p (List.mem_cons_self ..)
    have hp : p ≠ (i : Int) + 1 := fun e => hr (by rw [e]; exact List.mem_cons_self ..)
    refine ⟨by omega, prev, p :: rest, by omega, by omega, ⟨g1, g2, g3, g4⟩, fun q hq => ?_, fun q hq => h5 q (by omega)⟩
    rcases List.mem_cons.1 hq with rfl | hq
    · omega
    · have := good_mem g4 q hq; omega

/-- What ApplyChange answers. -/
noncomputable def acV (row : List Int) (s : ByteArray) : List Int := if RowOk row then if stayB s row.length = true then applyL (stayV s row.length) 0 row else [] else []
noncomputable def acC (row : List Int) (s : ByteArray) : Int := if RowOk row then if stayB s row.length = true then 0 else 2 else 1
theorem ac_no {row : List Int} (s : ByteArray) (h : ¬ RowOk row) : acV row s = [] ∧ acC row s = 1 := ⟨if_neg h, if_neg h⟩
theorem ac_bad {row : List Int} {s : ByteArray} (h : RowOk row) (g : stayB s row.length = false) : acV row s = [] ∧ acC row s = 2 := by unfold acV acC; rw [if_pos h, if_pos h, g]; exact ⟨rfl, rfl⟩
theorem ac_yes {row : List Int} {s : ByteArray} (h : RowOk row) (g : stayB s row.length = true) : acV row s = applyL (stayV s row.length) 0 row ∧ acC row s = 0 := by unfold acV acC; rw [if_pos h, if_pos h, g]; exact ⟨rfl, rfl⟩
theorem ac_len (row : List Int) (s : ByteArray) : (acV row s).length ≤ 1048576 := by
  unfold acV; split
  · rename_i h; split
    · rw [ap_len _ row.length _ _ (Nat.le_refl _)]; have := h.stage; unfold stage at this; omega
    · simp
  · simp

end Go.Proofs.YtgdfecnpkjnhnaaDoor
