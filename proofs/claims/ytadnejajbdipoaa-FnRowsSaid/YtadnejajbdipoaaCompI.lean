/- Contract of impl.ComposeRows. -/
import Derived.Test.YtadnejajbdipoaaComp
set_option linter.unusedSimpArgs false
set_option linter.unnecessarySimpa false
set_option linter.unusedVariables false
set_option maxRecDepth 100000
namespace Go.Proofs.Ytadnejajbdipoaa
open Go.RowKit

set_option maxHeartbeats 1000000 in
theorem implComposeRows_any (v1 : Value) (a : List Int) (v2 : Value) (b : List Int) (w : World) (h1 : RdInts w v1 a) (ok1 : ∀ x ∈ a, I64 x) (hs1 : a.length ≤ 1048576) (h2 : RdInts w v2 b) (ok2 : ∀ x ∈ b, I64 x) (hs2 : b.length ≤ 1048576) :
    Calls Try.prog 29 #[v1, v2] w fun e w' => ∃ v', e = .returned (.tuple #[v', .int .i64 (compC a b)]) ∧ OwnInts w.heap.size w'.heap.size w' v' (compV a b) ∧ Below w.heap.size w w' := by
  obtain ⟨a1, ca, rfl, _, _, _⟩ := id h1
  obtain ⟨a2, cb, rfl, _, _, _⟩ := id h2
  by_cases ga : RowOk a
  rotate_left
  · obtain ⟨e1, e2⟩ := cp_a (b := b) ga
    have E1 := Lib.hid e1; have E2 := Lib.hid e2; have GA := Lib.hid (rowB_no ga); clear e1 e2 ga
    go_enter Try.func29, Try.ntmps29
    go_wp2_with fail
    refine (implValidRow_any _ a _ h1 ok1 hs1).mono ?_
    rw [GA.out]
    rintro e w1 ⟨rfl, hb1⟩
    skip
    go_wp2
    go_ret2
    exact ⟨_, by rw [E2.out]; rfl, by rw [E1.out]; exact OwnInts.nil _ _ _, hb1⟩
  by_cases gb : RowOk b
  rotate_left
  · obtain ⟨e1, e2⟩ := cp_b ga gb
    have E1 := Lib.hid e1; have E2 := Lib.hid e2; have GA := Lib.hid (rowB_yes ga); have GB := Lib.hid (rowB_no gb); clear e1 e2 ga gb
    go_enter Try.func29, Try.ntmps29
    go_wp2_with fail
    refine (implValidRow_any _ a _ h1 ok1 hs1).mono ?_
    rw [GA.out]
    rintro e w1 ⟨rfl, hb1⟩
    skip
    go_wp2_with fail
    refine (implValidRow_any _ b _ (Ints.mono h2 hb1) ok2 hs2).mono ?_
    rw [GB.out]
    rintro e w2 ⟨rfl, hb2⟩
    have hb2 := hb1.trans (hb2.mono hb1.size)
    go_wp2
    go_ret2
    exact ⟨_, by rw [E2.out]; rfl, by rw [E1.out]; exact OwnInts.nil _ _ _, hb2⟩
  by_cases gl : a.length = b.length
  rotate_left
  · obtain ⟨e1, e2⟩ := cp_len ga gb gl
    have dl : ((a.length : Int) != (b.length : Int)) = true := by simp; omega
    have E1 := Lib.hid e1; have E2 := Lib.hid e2; have GA := Lib.hid (rowB_yes ga); have GB := Lib.hid (rowB_yes gb); clear e1 e2 ga gb gl
    go_enter Try.func29, Try.ntmps29
    go_wp2_with fail
    refine (implValidRow_any _ a _ h1 ok1 hs1).mono ?_
    rw [GA.out]
    rintro e w1 ⟨rfl, hb1⟩
    skip
    go_wp2_with fail
    refine (implValidRow_any _ b _ (Ints.mono h2 hb1) ok2 hs2).mono ?_
    rw [GB.out]
    rintro e w2 ⟨rfl, hb2⟩
    have hb2 := hb1.trans (hb2.mono hb1.size)
    go_wp2
    go_ret2
    exact ⟨_, by rw [E2.out]; rfl, by rw [E1.out]; exact OwnInts.nil _ _ _, hb2⟩
  · obtain ⟨e1, e2⟩ := cp_yes ga gb gl
    have dl : ((a.length : Int) != (b.length : Int)) = false := by simp; omega
    have hmem : ∀ x ∈ b, 1 ≤ x ∧ x ≤ a.length := fun x hx => by have := gb.mem x hx; omega
    have hln : b.length ≤ 1000000 := by have := gb.stage; unfold stage at this; omega
    have E1 := Lib.hid e1; have E2 := Lib.hid e2; have GA := Lib.hid (rowB_yes ga); have GB := Lib.hid (rowB_yes gb); have HM := Lib.hid hmem; clear e1 e2 ga gb gl hmem
    go_enter Try.func29, Try.ntmps29
    go_wp2_with fail
    refine (implValidRow_any _ a _ h1 ok1 hs1).mono ?_
    rw [GA.out]
    rintro e w1 ⟨rfl, hb1⟩
    skip
    go_wp2_with fail
    refine (implValidRow_any _ b _ (Ints.mono h2 hb1) ok2 hs2).mono ?_
    rw [GB.out]
    rintro e w2 ⟨rfl, hb2⟩
    have hb2 := hb1.trans (hb2.mono hb1.size)
    go_wp2_with fail
    refine (compose_any _ _ a b _ (Ints.mono h1 hb2) (Ints.mono h2 hb2) HM.out hln).mono ?_
    rintro e w3 ⟨v3, rfl, ho3, hb3⟩
    obtain ⟨a3, c3, rfl⟩ := ho3.form
    have hz2 := hb2.size
    have HO3 := Lib.hid (ho3.wide (B' := w.heap.size) (E' := w3.heap.size) hz2 (Nat.le_refl _)); have HB3 := Lib.hid (hb2.trans (hb3.mono hz2))
    clear ho3 hb3
    go_wp2
    go_ret2
    exact ⟨_, by rw [E2.out]; rfl, by rw [E1.out]; exact HO3.out, HB3.out⟩


end Go.Proofs.Ytadnejajbdipoaa
