/- Contracts of compose and of ComposeRows of both packages. -/
import Derived.Test.YtadnejajbdipoaaRow
set_option linter.unusedSimpArgs false
set_option linter.unnecessarySimpa false
set_option linter.unusedVariables false
set_option maxRecDepth 100000
namespace Go.Proofs.Ytadnejajbdipoaa
open Go.RowKit

set_option maxHeartbeats 1000000 in
theorem l27Compose_any (v1 v2 : Value) (a b : List Int) (w : World) (h1 : Ints w v1 a) (h2 : Ints w v2 b) (hb : ∀ x ∈ b, 1 ≤ x ∧ x ≤ a.length) (hl : b.length ≤ 1000000) :
    Calls Try.prog 64 #[v1, v2] w fun e w' => ∃ v', e = .returned v' ∧ OwnInts w.heap.size w'.heap.size w' v' (comp a b) ∧ Below w.heap.size w w' := by
  obtain ⟨a1, ca, rfl, hca, hcm, _⟩ := id h1
  obtain ⟨a2, cb, rfl, _, _, _⟩ := id h2
  have hm : a.length ≤ maxLen := by omega
  clear hca hcm
  unfold maxLen at hm
  have HM := Lib.hid hb; clear hb
  go_enter Try.func64, Try.ntmps64
  go_wp2_with fail
  go_loopw [5, 6] (fun o i wr => ∃ (k : Nat) (a' : Option Addr) (c' : Nat), k ≤ b.length ∧ i = .int .i64 (k : Int) ∧ o = .slice a' k c' ∧ wr.ownsRow w.heap.size 2 1 (.slice a' k c') k ((comp a (b.take k)).map (Value.int .i64)) ∧ Below w.heap.size w wr) (fun o i _ => b.length - (intOf i).toNat)
  case atStart => exact ⟨0, some ⟨w.heap.size, 0, none⟩, 0, Nat.zero_le _, by go_num, rfl, by simpa [comp] using owns_empty w 2 1 _ (Nat.le_refl _), by (repeat (first | with_reducible exact Below.refl _ _ | with_reducible exact hbw | (with_reducible refine Below.setCell ?_ ?_ _; rotate_left; · first | exact Nat.le_refl _ | omega | (simp; done) | (simp; omega)) | (with_reducible refine Below.alloc ?_ ?_ _; rotate_left; · first | exact Nat.le_refl _ | omega | (simp; done) | (simp; omega)) | with_reducible refine below_drewN ?_ _ | with_reducible refine Below.drew ?_))⟩
  case round =>
    obtain ⟨k, a', c', hk, rfl, rfl, ho, hb⟩ := hrel
    have hz := hb.size
    have HO := Lib.hid ho; clear ho
    by_cases hlt : k < b.length
    · obtain ⟨b2, o2, rfl, x2⟩ := (Ints.mono h2 hb).cells (by simp; omega)
      have d2 : wr.cell? ⟨b2, o2 + k, none⟩ = some (.int .i64 b[k]) := x2 k _ (by simp [hlt])
      obtain ⟨m1, m2⟩ := HM.out b[k] (List.getElem_mem hlt)
      obtain ⟨p, hp⟩ : ∃ p : Nat, p = (b[k] - 1).toNat := ⟨_, rfl⟩
      have hpl : p < a.length := by omega
      obtain ⟨b1, o1, rfl, x1⟩ := (Ints.mono h1 hb).cells (by simp; omega)
      have d1 : wr.cell? ⟨b1, o1 + p, none⟩ = some (.int .i64 a[p]) := x1 p _ (by simp [hpl])
      have G := Lib.hid (show a.getD (b[k] - 1).toNat 0 = a[p] by rw [← hp]; simp [hpl])
      have z1 : (b[k] - 1).toNat = p := hp.symm
      have w1' : IntKind.i64.wrap (b[k] - 1) = b[k] - 1 := IntWalk.i64_in _ (by omega)
      have e1 : (0 : Int) ≤ b[k] - 1 := by omega
      have e2 : b[k] - 1 < (a.length : Int) := by omega
      have e3 : b[k] < (a.length : Int) + 1 := by omega
      have e4 : ¬ (b[k] - 1 < 0) := by omega
      have e5 : ¬ ((a.length : Int) ≤ b[k] - 1) := by omega
      clear x1 x2 hp
      go_wp2_with (at_builtin; refine append_one rfl _ _ 24 rfl w.heap.size 2 (.int .i64 0) 1 8 Try.underlying24 info_int rfl (by decide) _ k _ rfl HO.out [.int .i64 a[p]] rfl (by simp [Value.oneCell']) rfl (by omega) (by decide) hz ?_)
      intro a5 c5 w5 ho5 _ hb5
      have HO5 := Lib.hid ho5; have HB5 := Lib.hid (hb.trans hb5)
      clear ho5 hb5 w1' z1 e1 e2 e3 e4 e5 m1 m2 d1 d2
      go_wp2
      go_roundw
      case rel => exact ⟨k + 1, a5, c5, by omega, by go_num, rfl, by rw [comp_step a b hlt, List.map_append, G.out]; exact HO5.out, HB5.out⟩
      case measure => simp [intOf] <;> omega
    · obtain rfl : k = b.length := by omega
      have ho := HO.out
      rw [List.take_length] at ho
      have HO2 := Lib.hid ho; clear ho
      go_wp2
      go_ret
      exact ⟨_, rfl, OwnInts.mk' (by rw [comp_len]; exact HO2.out), hb⟩

set_option maxHeartbeats 1000000 in
theorem compose_any (v1 v2 : Value) (a b : List Int) (w : World) (h1 : Ints w v1 a) (h2 : Ints w v2 b) (hb : ∀ x ∈ b, 1 ≤ x ∧ x ≤ a.length) (hl : b.length ≤ 1000000) :
    Calls Try.prog 61 #[v1, v2] w fun e w' => ∃ v', e = .returned v' ∧ OwnInts w.heap.size w'.heap.size w' v' (comp a b) ∧ Below w.heap.size w w' := by
  obtain ⟨a1, ca, rfl, hca, hcm, _⟩ := id h1
  obtain ⟨a2, cb, rfl, _, _, _⟩ := id h2
  have hm : a.length ≤ maxLen := by omega
  clear hca hcm
  unfold maxLen at hm
  have HM := Lib.hid hb; clear hb
  go_enter Try.func61, Try.ntmps61
  go_wp2_with fail
  go_loopw [5, 10, 7] (fun o i _ wr => ∃ (k : Nat) (a' : Option Addr) (c' : Nat), k ≤ b.length ∧ i = .int .i64 (k : Int) ∧ o = .slice a' k c' ∧ wr.ownsRow w.heap.size 2 1 (.slice a' k c') k ((comp a (b.take k)).map (Value.int .i64)) ∧ Below w.heap.size w wr) (fun o i _ _ => b.length - (intOf i).toNat)
  case atStart => exact ⟨0, none, 0, Nat.zero_le _, by go_num, rfl, by simpa [comp] using owns_nil _ _ _ _, by (repeat (first | with_reducible exact Below.refl _ _ | with_reducible exact hbw | (with_reducible refine Below.setCell ?_ ?_ _; rotate_left; · first | exact Nat.le_refl _ | omega | (simp; done) | (simp; omega)) | (with_reducible refine Below.alloc ?_ ?_ _; rotate_left; · first | exact Nat.le_refl _ | omega | (simp; done) | (simp; omega)) | with_reducible refine below_drewN ?_ _ | with_reducible refine Below.drew ?_))⟩
  case round =>
    obtain ⟨k, a', c', hk, rfl, rfl, ho, hb⟩ := hrel
    have hz := hb.size
    have HO := Lib.hid ho; clear ho
    by_cases hlt : k < b.length
    · obtain ⟨b2, o2, rfl, x2⟩ := (Ints.mono h2 hb).cells (by simp; omega)
      have d2 : wr.cell? ⟨b2, o2 + k, none⟩ = some (.int .i64 b[k]) := x2 k _ (by simp [hlt])
      obtain ⟨m1, m2⟩ := HM.out b[k] (List.getElem_mem hlt)
      obtain ⟨p, hp⟩ : ∃ p : Nat, p = (b[k] - 1).toNat := ⟨_, rfl⟩
      have hpl : p < a.length := by omega
      obtain ⟨b1, o1, rfl, x1⟩ := (Ints.mono h1 hb).cells (by simp; omega)
      have d1 : wr.cell? ⟨b1, o1 + p, none⟩ = some (.int .i64 a[p]) := x1 p _ (by simp [hpl])
      have G := Lib.hid (show a.getD (b[k] - 1).toNat 0 = a[p] by rw [← hp]; simp [hpl])
      have z1 : (b[k] - 1).toNat = p := hp.symm
      have w1' : IntKind.i64.wrap (b[k] - 1) = b[k] - 1 := IntWalk.i64_in _ (by omega)
      have e1 : (0 : Int) ≤ b[k] - 1 := by omega
      have e2 : b[k] - 1 < (a.length : Int) := by omega
      have e3 : b[k] < (a.length : Int) + 1 := by omega
      have e4 : ¬ (b[k] - 1 < 0) := by omega
      have e5 : ¬ ((a.length : Int) ≤ b[k] - 1) := by omega
      clear x1 x2 hp
      go_wp2_with (at_builtin; refine append_one rfl _ _ 24 rfl w.heap.size 2 (.int .i64 0) 1 8 Try.underlying24 info_int rfl (by decide) _ k _ rfl HO.out [.int .i64 a[p]] rfl (by simp [Value.oneCell']) rfl (by omega) (by decide) hz ?_)
      intro a5 c5 w5 ho5 _ hb5
      have HO5 := Lib.hid ho5; have HB5 := Lib.hid (hb.trans hb5)
      clear ho5 hb5 w1' z1 e1 e2 e3 e4 e5 m1 m2 d1 d2
      go_wp2
      go_roundw
      case rel => exact ⟨k + 1, a5, c5, by omega, by go_num, rfl, by rw [comp_step a b hlt, List.map_append, G.out]; exact HO5.out, HB5.out⟩
      case measure => simp [intOf] <;> omega
    · obtain rfl : k = b.length := by omega
      have ho := HO.out
      rw [List.take_length] at ho
      have HO2 := Lib.hid ho; clear ho
      go_wp2
      go_ret
      exact ⟨_, rfl, OwnInts.mk' (by rw [comp_len]; exact HO2.out), hb⟩

theorem cp_yes {a b : List Int} (ha : RowOk a) (hb : RowOk b) (h : a.length = b.length) : compV a b = comp a b ∧ compC a b = 0 := by unfold compV compC; rw [if_pos ha, if_pos ha, if_pos hb, if_pos hb, if_pos h, if_pos h]; exact ⟨rfl, rfl⟩
theorem cp_len {a b : List Int} (ha : RowOk a) (hb : RowOk b) (h : ¬ a.length = b.length) : compV a b = [] ∧ compC a b = 7 := by unfold compV compC; rw [if_pos ha, if_pos ha, if_pos hb, if_pos hb, if_neg h, if_neg h]; exact ⟨rfl, rfl⟩
theorem cp_b {a b : List Int} (ha : RowOk a) (hb : ¬ RowOk b) : compV a b = [] ∧ compC a b = 1 := by unfold compV compC; rw [if_pos ha, if_pos ha, if_neg hb, if_neg hb]; exact ⟨rfl, rfl⟩
theorem cp_a {a b : List Int} (ha : ¬ RowOk a) : compV a b = [] ∧ compC a b = 1 := by unfold compV compC; rw [if_neg ha, if_neg ha]; exact ⟨rfl, rfl⟩
theorem rowB_yes {xs : List Int} (h : RowOk xs) : rowB xs = true := rowB_iff.2 h
theorem rowB_no {xs : List Int} (h : ¬ RowOk xs) : rowB xs = false := by rw [← Bool.not_eq_true, rowB_iff]; exact h

set_option maxHeartbeats 1000000 in
theorem specComposeRows_any (v1 : Value) (a : List Int) (v2 : Value) (b : List Int) (w : World) (h1 : RdInts w v1 a) (ok1 : ∀ x ∈ a, I64 x) (hs1 : a.length ≤ 1048576) (h2 : RdInts w v2 b) (ok2 : ∀ x ∈ b, I64 x) (hs2 : b.length ≤ 1048576) :
    Calls Try.prog 33 #[v1, v2] w fun e w' => ∃ v', e = .returned (.tuple #[v', .int .i64 (compC a b)]) ∧ OwnInts w.heap.size w'.heap.size w' v' (compV a b) ∧ Below w.heap.size w w' := by
  obtain ⟨a1, ca, rfl, _, _, _⟩ := id h1
  obtain ⟨a2, cb, rfl, _, _, _⟩ := id h2
  by_cases ga : RowOk a
  rotate_left
  · obtain ⟨e1, e2⟩ := cp_a (b := b) ga
    have E1 := Lib.hid e1; have E2 := Lib.hid e2; have GA := Lib.hid (rowB_no ga); clear e1 e2 ga
    go_enter Try.func33, Try.ntmps33
    go_wp2_with fail
    refine (l27Row_any _ a _ h1).mono ?_
    rw [GA.out]
    rintro e w1 ⟨rfl, hb1⟩
    have hb1 := hb1.below w.heap.size
    go_wp2
    go_ret2
    exact ⟨_, by rw [E2.out]; rfl, by rw [E1.out]; exact OwnInts.nil _ _ _, hb1⟩
  by_cases gb : RowOk b
  rotate_left
  · obtain ⟨e1, e2⟩ := cp_b ga gb
    have E1 := Lib.hid e1; have E2 := Lib.hid e2; have GA := Lib.hid (rowB_yes ga); have GB := Lib.hid (rowB_no gb); clear e1 e2 ga gb
    go_enter Try.func33, Try.ntmps33
    go_wp2_with fail
    refine (l27Row_any _ a _ h1).mono ?_
    rw [GA.out]
    rintro e w1 ⟨rfl, hb1⟩
    have hb1 := hb1.below w.heap.size
    go_wp2_with fail
    refine (l27Row_any _ b _ (Ints.mono h2 hb1)).mono ?_
    rw [GB.out]
    rintro e w2 ⟨rfl, hb2⟩
    have hb2 := hb1.trans (hb2.below w.heap.size)
    go_wp2
    go_ret2
    exact ⟨_, by rw [E2.out]; rfl, by rw [E1.out]; exact OwnInts.nil _ _ _, hb2⟩
  by_cases gl : a.length = b.length
  rotate_left
  · obtain ⟨e1, e2⟩ := cp_len ga gb gl
    have dl : ((a.length : Int) != (b.length : Int)) = true := by simp; omega
    have E1 := Lib.hid e1; have E2 := Lib.hid e2; have GA := Lib.hid (rowB_yes ga); have GB := Lib.hid (rowB_yes gb); clear e1 e2 ga gb gl
    go_enter Try.func33, Try.ntmps33
    go_wp2_with fail
    refine (l27Row_any _ a _ h1).mono ?_
    rw [GA.out]
    rintro e w1 ⟨rfl, hb1⟩
    have hb1 := hb1.below w.heap.size
    go_wp2_with fail
    refine (l27Row_any _ b _ (Ints.mono h2 hb1)).mono ?_
    rw [GB.out]
    rintro e w2 ⟨rfl, hb2⟩
    have hb2 := hb1.trans (hb2.below w.heap.size)
    go_wp2
    go_ret2
    exact ⟨_, by rw [E2.out]; rfl, by rw [E1.out]; exact OwnInts.nil _ _ _, hb2⟩
  · obtain ⟨e1, e2⟩ := cp_yes ga gb gl
    have dl : ((a.length : Int) != (b.length : Int)) = false := by simp; omega
    have hmem : ∀ x ∈ b, 1 ≤ x ∧ x ≤ a.length := fun x hx => by have := gb.mem x hx; omega
    have hln : b.length ≤ 1000000 := by have := gb.stage; unfold stage at this; omega
    have E1 := Lib.hid e1; have E2 := Lib.hid e2; have GA := Lib.hid (rowB_yes ga); have GB := Lib.hid (rowB_yes gb); have HM := Lib.hid hmem; clear e1 e2 ga gb gl hmem
    go_enter Try.func33, Try.ntmps33
    go_wp2_with fail
    refine (l27Row_any _ a _ h1).mono ?_
    rw [GA.out]
    rintro e w1 ⟨rfl, hb1⟩
    have hb1 := hb1.below w.heap.size
    go_wp2_with fail
    refine (l27Row_any _ b _ (Ints.mono h2 hb1)).mono ?_
    rw [GB.out]
    rintro e w2 ⟨rfl, hb2⟩
    have hb2 := hb1.trans (hb2.below w.heap.size)
    go_wp2_with fail
    refine (l27Compose_any _ _ a b _ (Ints.mono h1 hb2) (Ints.mono h2 hb2) HM.out hln).mono ?_
    rintro e w3 ⟨v3, rfl, ho3, hb3⟩
    obtain ⟨a3, c3, rfl⟩ := ho3.form
    have hz2 := hb2.size
    have HO3 := Lib.hid (ho3.wide (B' := w.heap.size) (E' := w3.heap.size) hz2 (Nat.le_refl _)); have HB3 := Lib.hid (hb2.trans (hb3.mono hz2))
    clear ho3 hb3
    go_wp2
    go_ret2
    exact ⟨_, by rw [E2.out]; rfl, by rw [E1.out]; exact HO3.out, HB3.out⟩


end Go.Proofs.Ytadnejajbdipoaa
