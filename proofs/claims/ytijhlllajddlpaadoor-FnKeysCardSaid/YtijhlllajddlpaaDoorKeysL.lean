/- What the law FnKeys asks: actions are read back from their texts, and travels are the least. Plain. -/
import Derived.Test.YtijhlllajddlpaaDoorReadActL
import Derived.Test.YtijhlllajddlpaaDoorTravel
import Derived.Test.YtijhlllajddlpaaDoorRatioL
set_option linter.unusedSimpArgs false
set_option linter.unnecessarySimpa false
set_option linter.unusedVariables false
set_option maxRecDepth 100000
namespace Go.Proofs.YtijhlllajddlpaaDoor
open Go.RowKit

theorem pairs_lev : ∀ ls : List Lev, pairs (levNums ls) = ls
  | [] => rfl
  | l :: ls => by
    have := pairs_lev ls
    simp only [levNums, List.flatMap_cons, List.cons_append, List.nil_append, pairs] at this ⊢
    rw [this]
theorem act_of_list (x : ActD) : actOf (actL x x.levs.length) = x := by
  unfold actL actOf
  rw [List.take_length]
  have := pairs_lev x.levs
  cases x
  simp only [List.cons_append, List.nil_append, List.getD_cons_zero, List.getD_cons_succ, List.drop_succ_cons, List.drop_zero] at *
  rw [this]
theorem act_read {x : ActD} (h : validActB x = true) : rdB (actT x) = true ∧ rdV (actT x) = x := by
  have ok : ActOk x := by simpa [validActB] using h
  have hl := ok.len
  have hlen := actL_len x x.levs.length (Nat.le_refl _)
  have hvals := actL_vals ok
  obtain ⟨xs, hxs⟩ : ∃ xs, xs = actL x x.levs.length := ⟨_, rfl⟩
  have hof : actOf xs = x := by rw [hxs]; exact act_of_list x
  rw [actT_yes h]
  rw [← hxs] at hlen hvals ⊢
  have hne : xs ≠ [] := by intro e; rw [e] at hlen; simp at hlen; omega
  have hs : listU xs = bytesB (commaT xs) := if_neg hne
  have hp : pieces (bytesB (commaT xs)) = xs.map Lib.itoa := by
    unfold pieces
    rw [bytesB_list]
    exact split_join _ (by simpa using hne) fun p hp => by
      obtain ⟨n, _, rfl⟩ := List.mem_map.1 hp
      exact itoa_free n
  have hnd : ¬ bytesB (commaT xs) = bytesB [45] := fun e => by
    rw [e] at hp
    have e2 : pieces (bytesB [45]) = [[45]] := by unfold pieces; rw [bytesB_list]; rfl
    rw [e2] at hp
    have := congrArg List.length hp
    rw [List.length_map] at this
    simp at this; omega
  have hnum : ∀ n ∈ xs, numOk (Lib.itoa n) = true ∧ numV (Lib.itoa n) = n := fun n hn => by
    have := hvals n hn
    unfold isVal at this
    exact itoa_num (by omega) (by omega)
  have hnb : numsB (pieces (bytesB (commaT xs))) = true := by
    rw [hp]
    refine decide_eq_true ⟨by rw [List.length_map]; omega, fun p hp => ?_⟩
    obtain ⟨n, hn, rfl⟩ := List.mem_map.1 hp
    exact ⟨(hnum n hn).1, by rw [(hnum n hn).2]; exact hvals n hn⟩
  obtain ⟨r1, r2⟩ := rl_yes hnd hnb
  have r3 : rlV (bytesB (commaT xs)) = xs := by
    rw [r2, hp, List.map_map]
    conv => rhs; rw [← List.map_id xs]
    exact List.map_congr_left fun n hn => (hnum n hn).2
  rw [hs]
  obtain ⟨q1, q2⟩ := rd_yes (s := bytesB (commaT xs)) r1 (by rw [r3]; exact ⟨by omega, by omega⟩) (by rw [r3, hof]; exact ok)
  exact ⟨q1, by rw [q2, r3, hof]⟩
theorem act_unread {x : ActD} (h : validActB x = false) : rdB (actT x) = false := by
  rw [actT_no h]
  have hnd : ¬ bytesB [] = bytesB [45] := fun e => by
    have := bytesB_inj e
    cases this
  have hnb : numsB (pieces (bytesB [])) = false := by
    have e2 : pieces (bytesB []) = [[]] := by unfold pieces; rw [bytesB_list]; rfl
    rw [e2]
    refine decide_eq_false fun g => ?_
    have := (g.2 [] (by simp)).1
    revert this
    unfold numOk
    intro this
    exact (of_decide_eq_true this).1.ne rfl
  have := (rl_no hnd hnb).1
  exact (rd_no (s := bytesB []) (fun g => by rw [this] at g; cases g.1)).1

theorem act_arms {x : ActD} (h : validActB x = true) : armsOk x.levs := by
  have ok : ActOk x := by simpa [validActB] using h
  exact ok.arms
theorem motion_ok {x : ActD} {t : Int} (h : validActB x = true) (ht : trOk t) (hm : mot x t ≠ -1) : motionAtC x t = 0 ∧ motionAtV x t = mot x t := by
  have := mot_low (x := x) (t := t) (act_arms h)
  unfold motionAtC motionAtV
  rw [h, if_pos rfl, if_pos rfl, if_pos ht, if_pos ht, if_neg (by omega), if_neg (by omega)]
  exact ⟨rfl, rfl⟩
theorem motion_inv {x : ActD} {t : Int} (h : motionAtC x t = 0) : validActB x = true ∧ trOk t ∧ mot x t ≠ -1 ∧ 0 ≤ mot x t := by
  unfold motionAtC at h
  split at h
  · rename_i hv
    split at h
    · rename_i ht
      split at h
      · cases h
      · exact ⟨hv, ht, by omega, by omega⟩
    · cases h
  · cases h
theorem motion_bad {x : ActD} {t : Int} (h : motionAtC x t ≠ 0) : motionAtV x t = 0 := by
  unfold motionAtC at h
  unfold motionAtV
  split
  · rename_i hv
    rw [hv, if_pos rfl] at h
    split
    · rename_i ht
      rw [if_pos ht] at h
      split
      · rfl
      · rename_i hm
        rw [if_neg hm] at h; exact absurd rfl h
    · rfl
  · rfl
/-- The travel that is told is enough, and the one before it is not. -/
theorem travel_least {x : ActD} {g : Int} (h : travelC x g = 0) :
    motionAtC x (travelV x g) = 0 ∧ g ≤ motionAtV x (travelV x g) ∧ (0 < travelV x g → motionAtC x (travelV x g - 1) = 0 ∧ motionAtV x (travelV x g - 1) < g) := by
  have hv : validActB x = true := by
    cases hv : validActB x with
    | true => rfl
    | false => have := (travel_inv (g := g) hv).2; omega
  have hg : goalOk g := Classical.byContradiction fun hg => by have := (travel_rng hv hg).2; omega
  have arms := act_arms hv
  by_cases ex : ∃ k : Nat, k < 100001 ∧ hitAt x g k
  · obtain ⟨k, hk, hp, hmin⟩ : ∃ k : Nat, k < 100001 ∧ hitAt x g k ∧ ∀ i : Nat, i < k → ¬ hitAt x g i := by
      obtain ⟨k, hk, hp⟩ := ex
      induction k using Nat.strongRecOn with
      | _ k ih =>
        by_cases e : ∃ i : Nat, i < k ∧ hitAt x g i
        · obtain ⟨i, hi, hpi⟩ := e
          exact ih i hi (by omega) hpi
        · exact ⟨k, hk, hp, fun i hi hpi => e ⟨i, hi, hpi⟩⟩
    have hI := travel_some hk hmin hp
    have hV := (travel_hit hv hg hI).1
    rw [← hV]
    obtain ⟨h1, h2⟩ := hp
    obtain ⟨m1, m2⟩ := motion_ok hv (t := (k : Int)) ⟨by omega, by omega⟩ h2
    refine ⟨m1, by rw [m2]; exact h1, fun hk0 => ?_⟩
    have hk1 : ((k - 1 : Nat) : Int) = (k : Int) - 1 := by omega
    have hn := hmin (k - 1) (by omega)
    have hmo := mot_mono (x := x) (s := ((k - 1 : Nat) : Int)) (t := (k : Int)) arms (by omega)
    have hne : mot x ((k - 1 : Nat) : Int) ≠ -1 := by omega
    have hlt : mot x ((k - 1 : Nat) : Int) < g := by
      unfold hitAt at hn
      rcases Int.lt_or_le (mot x ((k - 1 : Nat) : Int)) g with a | a
      · exact a
      · exact absurd ⟨a, hne⟩ hn
    rw [← hk1]
    obtain ⟨n1, n2⟩ := motion_ok hv (t := ((k - 1 : Nat) : Int)) ⟨by omega, by omega⟩ hne
    exact ⟨n1, by rw [n2]; exact hlt⟩
  · have hI := travel_none (x := x) (g := g) fun i hi hp => ex ⟨i, hi, hp⟩
    have := (travel_miss hv hg hI).2
    omega
theorem chain_zeroK {M : Int} (hM : 0 ≤ M) : ∀ (ls : List Lev), armsOk ls → chain M ls 0 = 0
  | [], _ => by simp [chain]
  | l :: ls, h => by
    have := chain_zeroK hM ls (fun k hk => h k (by simp [hk]))
    have hi := (h l (by simp)).1
    unfold arm at hi
    unfold chain
    rw [Int.zero_mul, near_zero (by omega), if_neg (by omega)]
    exact this
theorem motion_slack {x : ActD} {t : Int} (h : motionAtC x t = 0) (hs : t ≤ x.slack) : motionAtV x t = 0 := by
  obtain ⟨hv, ht, hm, h0⟩ := motion_inv h
  rw [(motion_ok hv ht hm).2]
  unfold mot
  rw [show max 0 (t - x.slack) = 0 by omega]
  exact chain_zeroK (by omega) _ (act_arms hv)
theorem motion_less {x : ActD} {t : Int} (h : motionAtC x t = 0) (h0 : 0 < t) : motionAtC x (t - 1) = 0 ∧ motionAtV x (t - 1) ≤ motionAtV x t := by
  obtain ⟨hv, ht, hm, hz⟩ := motion_inv h
  have hmo := mot_mono (x := x) (s := t - 1) (t := t) (act_arms hv) (by omega)
  obtain ⟨n1, n2⟩ := motion_ok hv (t := t - 1) ⟨by omega, by have := ht.2; omega⟩ (by omega)
  exact ⟨n1, by rw [n2, (motion_ok hv ht hm).2]; omega⟩
theorem ratio_pos {x : ActD} (h : raC x = 0) : 1 ≤ raT x ∧ 1 ≤ raB x := by
  have ok : ActOk x := Classical.byContradiction fun e => by have := (ra_no e).2.2; omega
  have fit : rFit x := Classical.byContradiction fun e => by have := (ra_big ok e).2.2; omega
  obtain ⟨e1, e2, _⟩ := ra_yes ok fit
  rw [e1, e2]
  obtain ⟨l1, l2, a1, a2⟩ := red_ok ok
  exact ⟨pr_pos a1 _ (by omega), pr_pos a2 _ (by omega)⟩

end Go.Proofs.YtijhlllajddlpaaDoor
