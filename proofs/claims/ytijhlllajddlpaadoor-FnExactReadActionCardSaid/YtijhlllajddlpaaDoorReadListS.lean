/- The reference's reading of a list of numbers. Contract of ReadList. -/
import Derived.Test.YtijhlllajddlpaaDoorPcs
import Derived.Test.YtijhlllajddlpaaDoorNumS
import Derived.Test.YtijhlllajddlpaaDoorStrEq
import Derived.Test.YtijhlllajddlpaaDoorWithin
set_option linter.unusedSimpArgs false
set_option linter.unnecessarySimpa false
set_option linter.unusedVariables false
set_option maxRecDepth 100000
namespace Go.Proofs.YtijhlllajddlpaaDoor
open Go.RowKit

theorem l01NumberP_any (p : List UInt8) (w : World) (hs : (bytesB p).size ≤ 1048576) :
    Calls Tryd.prog 60 #[.string (bytesB p)] w fun e w' => e = .returned (.tuple #[.int .i64 (numV p), .bool (numOk p)]) ∧ w' = w := by
  have := l01Number_any (bytesB p) w hs
  rwa [bytesB_list] at this
theorem dash_no {s : ByteArray} (h : ¬ s = bytesB [45]) : (s.toList == [45]) = false := by
  have e := strEq s ⟨#[45]⟩
  rw [ByteArray.toList_eq (⟨#[45]⟩ : ByteArray)] at e
  rw [show ([45] : List UInt8) = (⟨#[45]⟩ : ByteArray).data.toList from rfl, e]
  exact decide_eq_false h
theorem dash_eq : bytesB [45] = (⟨#[45]⟩ : ByteArray) := rfl
/-- The numbers of the first k pieces. -/
def numsTo (ps : List (List UInt8)) (k : Nat) : List Int := (ps.take k).map numV
theorem numsTo_len (ps : List (List UInt8)) {k : Nat} (h : k ≤ ps.length) : (numsTo ps k).length = k := by unfold numsTo; rw [List.length_map, List.length_take, Nat.min_eq_left h]
theorem numsTo_step {ps : List (List UInt8)} {k : Nat} (h : k < ps.length) : numsTo ps (k + 1) = numsTo ps k ++ [numV ps[k]] := by unfold numsTo; rw [List.take_succ_eq_append_getElem h, List.map_append]; rfl
theorem numsTo_all (ps : List (List UInt8)) : numsTo ps ps.length = ps.map numV := by unfold numsTo; rw [List.take_length]

set_option maxHeartbeats 4000000 in
theorem specReadList_any (s : ByteArray) (w : World) (hs : s.size ≤ 1048576) :
    Calls Tryd.prog 30 #[.string s] w fun e w' => ∃ v, e = .returned (.tuple #[v, .bool (rlB s)]) ∧ Ints w' v (rlV s) ∧ Below w.heap.size w w' := by
  by_cases hd : s = bytesB [45]
  · have HR := Lib.hid (rl_dash hd)
    rw [dash_eq] at hd
    subst hd
    go_enter Tryd.func30, Tryd.ntmps30
    go_wp2
    go_ret2
    refine ⟨_, by rw [HR.out.1]; rfl, by rw [HR.out.2]; exact Sl.of_owns (owns_empty w 2 1 w.heap.size (Nat.le_refl _)), belowA _ _⟩
  have d0 := dash_no hd
  have HD := Lib.hid hd
  have HS := Lib.hid hs
  have hne := splitC_ne 44 s.data.toList
  obtain ⟨ps, hps⟩ : ∃ ps, ps = pieces s := ⟨_, rfl⟩
  have HPS := Lib.hid hps
  have hsp := l01Split_any s 44 w hs
  rw [show splitC 44 s.data.toList = ps from hps.symm] at hsp hne
  have HSP := Lib.hid hsp
  have HSZ := Lib.hid (show ∀ p ∈ ps, (bytesB p).size ≤ 1048576 from fun p hp => piece_size (by rw [hps] at hp; exact hp) hs)
  clear hsp hd hps hs
  go_enter Tryd.func30, Tryd.ntmps30
  go_wp2_with fail
  refine HSP.out.mono ?_
  rintro e w1 ⟨v, rfl, hp1, hb1⟩
  have hz1 := hb1.size
  have HB1 := Lib.hid hb1
  obtain ⟨g, c, rfl, hcc, ht⟩ := hp1.txt hne
  have HT := Lib.hid ht
  clear ht hp1 hb1
  by_cases h64 : 64 < ps.length
  · have d1 : decide (64 < (ps.length : Int)) = true := by simp; omega
    have HR := Lib.hid (rl_no HD.out (show numsB (pieces s) = false by rw [← HPS.out]; exact decide_eq_false fun h => by have := h.1; omega))
    go_wp2
    go_ret2
    refine ⟨_, by rw [HR.out.1]; rfl, by rw [HR.out.2]; exact Sl.of_owns (owns_nil w1 2 1 0), HB1.out⟩
  have d1 : decide (64 < (ps.length : Int)) = false := by simp; omega
  have d2 : decide (64 < ps.length) = false := by simp; omega
  have HO0 := Lib.hid (owns_empty w1 2 1 w1.heap.size (Nat.le_refl _))
  have h64' : ps.length ≤ 64 := by omega
  go_wp2_with fail
  go_loopw [5, 6, 7, 8] (fun o i _ _ wr => ∃ (k : Nat) (a' : Option Addr) (c' : Nat), k ≤ ps.length ∧ i = .int .i64 (k : Int) ∧ o = .slice a' k c' ∧ wr.ownsRow w1.heap.size 2 1 (.slice a' k c') k ((numsTo ps k).map (Value.int .i64)) ∧ (∀ j (hj : j < ps.length), j < k → numAt ps[j]) ∧ Below w1.heap.size w1 wr) (fun _ i _ _ _ => ps.length - (intOf i).toNat)
  case atStart => exact ⟨0, some ⟨w1.heap.size, 0, none⟩, 0, Nat.zero_le _, by go_num, rfl, HO0.out, fun j _ hj => by omega, belowA _ _⟩
  case round =>
    obtain ⟨k, a', c', hk, rfl, rfl, ho, hn, hb⟩ := hrel
    have hz := hb.size
    have HB := Lib.hid hb; have HO := Lib.hid ho; have HN := Lib.hid hn
    have HBW := Lib.hid (HB1.out.trans (hb.mono hz1))
    clear ho hn
    by_cases hlt : k < ps.length
    · have e1 : wr.cell? ⟨g, k, none⟩ = some (.string (bytesB ps[k])) := cellB hb (HT.out k hlt)
      have HS1 := Lib.hid (HSZ.out _ (List.getElem_mem hlt))
      have HST := Lib.hid (numsTo_step hlt)
      clear hb
      cases hv : numOk ps[k]
      · have HR := Lib.hid (rl_no HD.out (show numsB (pieces s) = false by
          rw [← HPS.out]
          exact decide_eq_false fun h => by have := (h.2 _ (List.getElem_mem hlt)).1; rw [hv] at this; cases this))
        go_wp2_with fail
        refine (l01NumberP_any _ _ HS1.out).mono ?_
        rw [hv]
        rintro e w2 ⟨rfl, rfl⟩
        clear hv
        go_wp2
        go_ret2
        refine ⟨_, by rw [HR.out.1]; rfl, by rw [HR.out.2]; exact Sl.of_owns (owns_nil w2 2 1 0), HBW.out⟩
      by_cases hr : isVal (numV ps[k])
      · have HIN := Lib.hid (show true = decide (-1000000000000 ≤ numV ps[k] ∧ numV ps[k] ≤ 1000000000000) from (decide_eq_true hr).symm)
        have HA := Lib.hid (show numAt ps[k] from ⟨hv, hr⟩)
        clear hr
        go_wp2_with fail
        refine (l01NumberP_any _ _ HS1.out).mono ?_
        rw [hv]
        rintro e w2 ⟨rfl, rfl⟩
        clear hv
        go_wp2_with fail
        refine (l00In_any true _ _ _ _ HIN.out).mono ?_
        rintro e w3 ⟨rfl, rfl⟩
        go_wp2_with (at_builtin; refine append_one_at rfl _ _ 52 rfl w1.heap.size 2 (.int .i64 0) 1 8 Tryd.underlying52 info_int rfl (by decide) _ k _ rfl HO.out [.int .i64 (numV ps[k])] rfl (by simp [Value.oneCell']) w3.heap.size rfl rfl (by omega) (by decide) (by omega) ?_)
        intro a7 c7 w7 ho7 hg7 hb7 _
        have HN7 := Lib.hid (show w7.ownsRow w1.heap.size 2 1 (.slice a7 (k + 1) c7) (k + 1) ((numsTo ps (k + 1)).map (Value.int .i64)) from by rw [HST.out, List.map_append]; exact ho7)
        have HB7 := Lib.hid (HB.out.trans hb7)
        clear ho7 hg7 hb7 HO
        go_wp2
        go_roundw
        case rel => exact ⟨k + 1, a7, c7, by omega, by go_num, rfl, HN7.out, fun j hj h1 => by
          by_cases e : j = k
          · subst e; exact HA.out
          · exact HN.out j hj (by omega), HB7.out⟩
        case measure => simp [intOf] <;> omega
      · have HIN := Lib.hid (show false = decide (-1000000000000 ≤ numV ps[k] ∧ numV ps[k] ≤ 1000000000000) from (decide_eq_false hr).symm)
        have HR := Lib.hid (rl_no HD.out (show numsB (pieces s) = false by
          rw [← HPS.out]
          exact decide_eq_false fun h => hr (h.2 _ (List.getElem_mem hlt)).2))
        clear hr
        go_wp2_with fail
        refine (l01NumberP_any _ _ HS1.out).mono ?_
        rw [hv]
        rintro e w2 ⟨rfl, rfl⟩
        clear hv
        go_wp2_with fail
        refine (l00In_any false _ _ _ _ HIN.out).mono ?_
        rintro e w3 ⟨rfl, rfl⟩
        go_wp2
        go_ret2
        refine ⟨_, by rw [HR.out.1]; rfl, by rw [HR.out.2]; exact Sl.of_owns (owns_nil w3 2 1 0), HBW.out⟩
    · obtain rfl : k = ps.length := by omega
      have HR := Lib.hid (rl_yes HD.out (show numsB (pieces s) = true by
        rw [← HPS.out]
        exact decide_eq_true ⟨h64', fun p hp => by
          obtain ⟨j, hj, rfl⟩ := List.getElem_of_mem hp
          exact HN.out j hj hj⟩))
      have HI := Lib.hid (show Ints wr (.slice a' ps.length c') (rlV s) from by
        rw [HR.out.2, ← HPS.out, ← numsTo_all]
        have := Sl.of_owns HO.out
        unfold Ints
        rwa [numsTo_len ps (Nat.le_refl _)])
      go_wp2
      go_ret2
      exact ⟨_, by rw [HR.out.1]; rfl, HI.out, HBW.out⟩

end Go.Proofs.YtijhlllajddlpaaDoor
