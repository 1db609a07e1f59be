/- Extra notes: plain. -/
import Derived.Test.YtgelilelmmocgaaPutL
import Derived.Test.YtgelilelmmocgaaAsk
set_option linter.unusedSimpArgs false
set_option linter.unnecessarySimpa false
set_option linter.unusedVariables false
namespace Go.Proofs.Ytgelilelmmocgaa
open Go.RowKit

/-- Shifted notes that are not among the bells. -/
def exL (ns : List Int) (b : Int) (zs : List Int) : List Int := (zs.map (· + b)).filter fun x => decide (x ∉ ns)
def okZ (b z : Int) : Prop := 0 ≤ z + b ∧ z + b ≤ 127
def okZs (b : Int) (zs : List Int) : Prop := ∀ z ∈ zs, okZ b z
theorem exL_zero (ns : List Int) (b : Int) (zs : List Int) : exL ns b (zs.take 0) = [] := rfl
theorem exL_in {ns : List Int} {b : Int} {zs : List Int} {k : Nat} (h : k < zs.length) (hp : zs[k] + b ∈ ns) : exL ns b (zs.take (k + 1)) = exL ns b (zs.take k) := by
  unfold exL; rw [List.take_succ_eq_append_getElem h, List.map_append, List.filter_append]; simp [hp]
theorem exL_out {ns : List Int} {b : Int} {zs : List Int} {k : Nat} (h : k < zs.length) (hp : ¬ zs[k] + b ∈ ns) : exL ns b (zs.take (k + 1)) = exL ns b (zs.take k) ++ [zs[k] + b] := by
  unfold exL; rw [List.take_succ_eq_append_getElem h, List.map_append, List.filter_append]; simp [hp]
theorem exL_len (ns : List Int) (b : Int) (zs : List Int) : (exL ns b zs).length ≤ zs.length := by
  unfold exL; exact Nat.le_trans (List.length_filter_le _ _) (by simp)
theorem okZs_zero (b : Int) (zs : List Int) : okZs b (zs.take 0) := by intro z hz; simp at hz
theorem okZs_step {b : Int} {zs : List Int} {k : Nat} (h : k < zs.length) (h1 : okZs b (zs.take k)) (h2 : okZ b zs[k]) : okZs b (zs.take (k + 1)) := by
  intro z hz
  rw [List.take_succ_eq_append_getElem h, List.mem_append, List.mem_singleton] at hz
  rcases hz with hz | rfl
  · exact h1 z hz
  · exact h2
theorem okZs_not {b : Int} {zs : List Int} {k : Nat} (h : k < zs.length) (h2 : ¬ okZ b zs[k]) : ¬ okZs b zs := fun h1 => h2 (h1 _ (List.getElem_mem h))
theorem okZs_all {b : Int} {zs : List Int} {k : Nat} (h : zs.length ≤ k) (h1 : okZs b (zs.take k)) : okZs b zs := by rwa [List.take_of_length_le h] at h1
/-- Each once first, or each once last: the same. -/
theorem exL_notes (ns : List Int) (b : Int) (zs : List Int) : exL ns b (notesOfL zs) = notesOfL (exL ns b zs) := by
  refine strict_ext _ _ ?_ (notesOfL_strict _) fun x => ?_
  · unfold exL Strict
    refine List.Pairwise.filter _ (List.pairwise_map.2 ?_)
    exact (notesOfL_strict zs).imp (by intro a c h; omega)
  · rw [notesOfL_mem]; simp [exL, notesOfL_mem]
theorem okZs_notes (b : Int) (zs : List Int) : okZs b (notesOfL zs) ↔ okZs b zs := by unfold okZs; simp [notesOfL_mem]
theorem validSet_in {ns : List Int} (h : validSet ns = true) {x : Int} (hx : x ∈ ns) : 0 ≤ x ∧ x ≤ 127 := by
  unfold validSet at h
  simp only [Bool.and_eq_true, decide_eq_true_eq] at h
  obtain ⟨j, hj, rfl⟩ := List.getElem_of_mem hx
  have := h.2 j hj
  unfold RiseAt at this
  have e : ns.getD j 0 = ns[j] := by simp [hj]
  rw [e] at this
  exact ⟨this.1, this.2.1⟩
open Classical in
noncomputable def exV (ns : List Int) (b : Int) (zs : List Int) : List Int := if okZs b zs then notesOfL (exL ns b zs) else []
open Classical in
noncomputable def exB (b : Int) (zs : List Int) : Bool := decide (okZs b zs)
theorem exV_yes {ns : List Int} {b : Int} {zs : List Int} (h : okZs b zs) : exV ns b zs = notesOfL (exL ns b zs) := by unfold exV; rw [if_pos h]
theorem exV_no {ns : List Int} {b : Int} {zs : List Int} (h : ¬ okZs b zs) : exV ns b zs = [] := by unfold exV; rw [if_neg h]
theorem exB_yes {b : Int} {zs : List Int} (h : okZs b zs) : exB b zs = true := by unfold exB; simpa using h
theorem exB_no {b : Int} {zs : List Int} (h : ¬ okZs b zs) : exB b zs = false := by unfold exB; simpa using h
theorem exV_len (ns : List Int) (b : Int) (zs : List Int) : (exV ns b zs).length ≤ zs.length := by
  by_cases h : okZs b zs
  · rw [exV_yes h]; exact Nat.le_trans (notesOfL_len _) (exL_len _ _ _)
  · rw [exV_no h]; simp

end Go.Proofs.Ytgelilelmmocgaa
