/- Which texts stand for a list of numbers, and for which. No program in sight. -/
import Derived.Test.YteaijhmgfddjiaaDoorNumL
import Derived.Test.YteaijhmgfddjiaaDoorSplitL
set_option linter.unusedSimpArgs false
set_option linter.unnecessarySimpa false
set_option linter.unusedVariables false
set_option maxRecDepth 100000
namespace Go.Proofs.YteaijhmgfddjiaaDoor
open Go.RowKit

def pieces (s : ByteArray) : List (List UInt8) := splitC 44 s.data.toList
def numAt (p : List UInt8) : Prop := numOk p = true ∧ isVal (numV p)
instance (p : List UInt8) : Decidable (numAt p) := by unfold numAt; infer_instance
def numsB (ps : List (List UInt8)) : Bool := decide (ps.length ≤ 64 ∧ ∀ p ∈ ps, numAt p)
def rlB (s : ByteArray) : Bool := if s = bytesB [45] then true else numsB (pieces s)
def rlV (s : ByteArray) : List Int := if s = bytesB [45] then [] else if numsB (pieces s) then (pieces s).map numV else []
theorem rl_dash {s : ByteArray} (h : s = bytesB [45]) : rlB s = true ∧ rlV s = [] := by unfold rlB rlV; rw [if_pos h, if_pos h]; exact ⟨rfl, rfl⟩
theorem rl_yes {s : ByteArray} (h : ¬ s = bytesB [45]) (hn : numsB (pieces s) = true) : rlB s = true ∧ rlV s = (pieces s).map numV := by unfold rlB rlV; rw [if_neg h, if_neg h, hn]; exact ⟨rfl, rfl⟩
theorem rl_no {s : ByteArray} (h : ¬ s = bytesB [45]) (hn : numsB (pieces s) = false) : rlB s = false ∧ rlV s = [] := by unfold rlB rlV; rw [if_neg h, if_neg h, hn]; exact ⟨rfl, rfl⟩
theorem rlV_len (s : ByteArray) : (rlV s).length ≤ 64 := by
  unfold rlV
  split
  · simp
  · split
    · rename_i h
      have := (of_decide_eq_true h).1
      simpa using this
    · simp
theorem rlV_val (s : ByteArray) : ∀ n ∈ rlV s, isVal n := by
  unfold rlV
  split
  · intro n hn; cases hn
  · split
    · rename_i h
      intro n hn
      obtain ⟨p, hp, rfl⟩ := List.mem_map.1 hn
      exact ((of_decide_eq_true h).2 p hp).2
    · intro n hn; cases hn
theorem itoa_free (n : Int) : free 44 (Lib.itoa n) := by
  have hd : ∀ u : Nat, free 44 (Lib.decDigits u) := fun u b hb e => by
    have := (dec_canon u).1.digs b hb
    rw [e] at this
    unfold dig at this
    revert this; decide
  by_cases h : n < 0
  · rw [itoa_negs h]
    intro b hb e
    rcases List.mem_cons.1 hb with hb | hb
    · rw [hb] at e; revert e; decide
    · exact hd _ b hb e
  · rw [itoa_pos (by omega)]; exact hd _
theorem numV_nil : numV [] = 0 := by
  have : numOk [] = false := by
    unfold numOk
    exact decide_eq_false fun h => h.1.ne rfl
  unfold numV
  rw [this]; rfl
/-- The program's way: it writes the numbers again, and compares. -/
theorem list_again {s : ByteArray} : listT ((pieces s).map numV) = s ↔ numsB (pieces s) = true := by
  have hne : pieces s ≠ [] := splitC_ne _ _
  constructor
  · intro h
    by_cases hl : ((pieces s).map numV).length ≤ 64 ∧ valsB ((pieces s).map numV) = true
    · rw [listT_yes hl.1 hl.2] at h
      unfold listU at h
      rw [if_neg (by simpa using hne)] at h
      have e := congrArg (fun b : ByteArray => b.data.toList) h
      simp only [bytesB_list] at e
      have e2 : pieces s = ((pieces s).map numV).map Lib.itoa := by
        have := split_join (c := 44) (((pieces s).map numV).map Lib.itoa) (by simpa using hne) (fun p hp => by
          obtain ⟨n, _, rfl⟩ := List.mem_map.1 hp
          exact itoa_free n)
        unfold commaT at e
        rw [e] at this
        exact this
      unfold numsB
      refine decide_eq_true ⟨by simpa using hl.1, fun p hp => ?_⟩
      obtain ⟨i, hi, rfl⟩ := List.getElem_of_mem hp
      have e3 : (pieces s)[i] = Lib.itoa (numV (pieces s)[i]) := by
        have h2 := congrArg (fun l => l[i]?) e2
        simp only [List.getElem?_map, List.getElem?_eq_getElem hi, Option.map_some, Option.some.injEq] at h2
        exact h2
      have hb := numV_bd (l := (pieces s)[i])
      refine ⟨?_, ?_⟩
      · rw [e3]; exact (itoa_num hb.1 hb.2).1
      · have := of_decide_eq_true hl.2
        exact this _ (List.mem_map.2 ⟨_, List.getElem_mem hi, rfl⟩)
    · exfalso
      have h0 : listT ((pieces s).map numV) = bytesB [] := if_neg hl
      rw [h0] at h
      have e : s.data.toList = [] := by rw [← h, bytesB_list]
      apply hl
      unfold pieces
      rw [e]
      have e1 : splitC 44 [] = [[]] := rfl
      rw [e1]
      simp only [List.map_cons, List.map_nil, numV_nil]
      refine ⟨by simp, decide_eq_true fun n hn => ?_⟩
      rw [List.mem_singleton.1 hn]; unfold isVal; omega
  · intro h
    obtain ⟨h1, h2⟩ := of_decide_eq_true h
    rw [listT_yes (by simpa using h1) (decide_eq_true fun n hn => by
      obtain ⟨p, hp, rfl⟩ := List.mem_map.1 hn
      exact (h2 p hp).2)]
    unfold listU
    rw [if_neg (by simpa using hne)]
    unfold commaT
    rw [List.map_map]
    have e : (pieces s).map (Lib.itoa ∘ numV) = pieces s := by
      conv => rhs; rw [← List.map_id (pieces s)]
      exact List.map_congr_left fun p hp => num_itoa (h2 p hp).1
    rw [e]
    unfold pieces
    rw [join_split, bytesB_of]

end Go.Proofs.YteaijhmgfddjiaaDoor
