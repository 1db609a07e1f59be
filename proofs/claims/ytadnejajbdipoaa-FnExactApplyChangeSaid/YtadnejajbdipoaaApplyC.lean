/- Contracts of ApplyChange of both packages. -/
import Derived.Test.YtadnejajbdipoaaApply
set_option linter.unusedSimpArgs false
set_option linter.unnecessarySimpa false
set_option linter.unusedVariables false
set_option maxRecDepth 100000
namespace Go.Proofs.Ytadnejajbdipoaa
open Go.RowKit

theorem row_i64 {xs : List Int} (h : RowOk xs) : I64 (xs.length : Int) := by
  have := h.stage
  unfold stage at this
  simp only [I64, Lit.wf, IntKind.min, IntKind.max, IntKind.signed, IntKind.bits]; simp; omega

set_option maxHeartbeats 1000000 in
theorem specApplyChange_any (v : Value) (xs : List Int) (s : ByteArray) (w : World) (h : RdInts w v xs) (ok : ∀ x ∈ xs, I64 x) (hs : xs.length ≤ 1048576) (hz : s.size ≤ 1048576) :
    Calls Try.prog 22 #[v, .string s] w fun e w' => ∃ v', e = .returned (.tuple #[v', .int .i64 (acC xs s)]) ∧ OwnInts w.heap.size w'.heap.size w' v' (acV xs s) ∧ Below w.heap.size w w' := by
  obtain ⟨a1, ca, rfl, _, _, _⟩ := id h
  by_cases g : RowOk xs
  rotate_left
  · obtain ⟨e1, e2⟩ := ac_no s g
    have E1 := Lib.hid e1; have E2 := Lib.hid e2; have G := Lib.hid (rowB_no g); clear e1 e2 g
    go_enter Try.func22, Try.ntmps22
    go_wp2_with fail
    refine (l27Row_any _ xs _ h).mono ?_
    rw [G.out]
    rintro e w1 ⟨rfl, hb1⟩
    go_wp2
    go_ret2
    exact ⟨_, by rw [E2.out]; rfl, by rw [E1.out]; exact OwnInts.nil _ _ _, hb1.below _⟩
  · have GI := Lib.hid (row_i64 g)
    have GS := Lib.hid g.stage
    cases gb : stayB s xs.length
    · obtain ⟨e1, e2⟩ := ac_bad g gb
      have E1 := Lib.hid e1; have E2 := Lib.hid e2; have G := Lib.hid (rowB_yes g); have GB := Lib.hid gb; clear e1 e2 g gb
      go_enter Try.func22, Try.ntmps22
      go_wp2_with fail
      refine (l27Row_any _ xs _ h).mono ?_
      rw [G.out]
      rintro e w1 ⟨rfl, hb1⟩
      go_wp2_with fail
      refine (l27Places_any s xs.length _ (by unfold maxLen; omega) GI.out).mono ?_
      rw [GB.out]
      rintro e w2 ⟨v, rfl, ho, hb⟩
      obtain ⟨a2, c2, rfl⟩ := ho.form
      go_wp2
      go_ret2
      exact ⟨_, by rw [E2.out]; rfl, by rw [E1.out]; exact OwnInts.nil _ _ _, (hb1.below _).trans (hb.mono (hb1.below w.heap.size).size)⟩
    · obtain ⟨e1, e2⟩ := ac_yes g gb
      have E1 := Lib.hid e1; have E2 := Lib.hid e2; have G := Lib.hid (rowB_yes g); have GB := Lib.hid gb; clear e1 e2 g gb
      go_enter Try.func22, Try.ntmps22
      go_wp2_with fail
      refine (l27Row_any _ xs _ h).mono ?_
      rw [G.out]
      rintro e w1 ⟨rfl, hq1⟩
      have hb1 := hq1.below w.heap.size
      go_wp2_with fail
      refine (l27Places_any s xs.length _ (by unfold maxLen; omega) GI.out).mono ?_
      rw [GB.out]
      rintro e w2 ⟨v, rfl, ho, hb⟩
      obtain ⟨a2, c2, rfl⟩ := ho.form
      have hb2 := hb1.trans (hb.mono hb1.size)
      have HI2 := Lib.hid (ho.rd); have HB2 := Lib.hid hb2
      clear ho hb hb2
      go_wp2_with fail
      refine (l27Apply_any _ _ xs _ _ (Ints.mono h HB2.out) HI2.out GS.out).mono ?_
      rintro e w3 ⟨v3, rfl, ho3, hb3⟩
      obtain ⟨a3, c3, rfl⟩ := ho3.form
      have HO3 := Lib.hid ho3; have HB3 := Lib.hid hb3; clear ho3 hb3
      go_wp2
      go_ret2
      exact ⟨_, by rw [E2.out]; rfl, by rw [E1.out]; exact HO3.out.wide HB2.out.size (Nat.le_refl _), HB2.out.trans (HB3.out.mono HB2.out.size)⟩

set_option maxHeartbeats 1000000 in
theorem implApplyChange_any (v : Value) (xs : List Int) (s : ByteArray) (w : World) (h : RdInts w v xs) (ok : ∀ x ∈ xs, I64 x) (hs : xs.length ≤ 1048576) (hz : s.size ≤ 1048576) :
    Calls Try.prog 23 #[v, .string s] w fun e w' => ∃ v', e = .returned (.tuple #[v', .int .i64 (acC xs s)]) ∧ OwnInts w.heap.size w'.heap.size w' v' (acV xs s) ∧ Below w.heap.size w w' := by
  obtain ⟨a1, ca, rfl, _, _, _⟩ := id h
  by_cases g : RowOk xs
  rotate_left
  · obtain ⟨e1, e2⟩ := ac_no s g
    have E1 := Lib.hid e1; have E2 := Lib.hid e2; have G := Lib.hid (rowB_no g); clear e1 e2 g
    go_enter Try.func23, Try.ntmps23
    go_wp2_with fail
    refine (implValidRow_any _ xs _ h ok hs).mono ?_
    rw [G.out]
    rintro e w1 ⟨rfl, hb1⟩
    go_wp2
    go_ret2
    exact ⟨_, by rw [E2.out]; rfl, by rw [E1.out]; exact OwnInts.nil _ _ _, hb1⟩
  · have GI := Lib.hid (row_i64 g)
    have GS := Lib.hid g.stage
    cases gb : stayB s xs.length
    · obtain ⟨e1, e2⟩ := ac_bad g gb
      have GC := Lib.hid (show changeB s xs.length = false by rw [ch_yes g.stage, gb])
      have E1 := Lib.hid e1; have E2 := Lib.hid e2; have G := Lib.hid (rowB_yes g); clear e1 e2 g gb
      go_enter Try.func23, Try.ntmps23
      go_wp2_with fail
      refine (implValidRow_any _ xs _ h ok hs).mono ?_
      rw [G.out]
      rintro e w1 ⟨rfl, hb1⟩
      go_wp2_with fail
      refine (sizeI_any _ _ _ _).mono ?_
      rintro e w9 ⟨rfl, rfl⟩
      go_wp2_with fail
      refine (implValidChange_any s xs.length _ hz GI.out).mono ?_
      rw [GC.out]
      rintro e w2 ⟨rfl, hb⟩
      go_wp2
      go_ret2
      exact ⟨_, by rw [E2.out]; rfl, by rw [E1.out]; exact OwnInts.nil _ _ _, hb1.trans (hb.mono hb1.size)⟩
    · obtain ⟨e1, e2⟩ := ac_yes g gb
      have GC := Lib.hid (show changeB s xs.length = true by rw [ch_yes g.stage, gb])
      have E1 := Lib.hid e1; have E2 := Lib.hid e2; have G := Lib.hid (rowB_yes g); have GB := Lib.hid gb; clear e1 e2 g gb
      go_enter Try.func23, Try.ntmps23
      go_wp2_with fail
      refine (implValidRow_any _ xs _ h ok hs).mono ?_
      rw [G.out]
      rintro e w1 ⟨rfl, hb1⟩
      go_wp2_with fail
      refine (sizeI_any _ _ _ _).mono ?_
      rintro e w9 ⟨rfl, rfl⟩
      go_wp2_with fail
      refine (implValidChange_any s xs.length _ hz GI.out).mono ?_
      rw [GC.out]
      rintro e w2 ⟨rfl, hb⟩
      have hb2 := hb1.trans (hb.mono hb1.size)
      have HB2 := Lib.hid hb2
      clear hb hb2
      go_wp2_with fail
      refine (applyChange_any _ xs s _ (Ints.mono h HB2.out) hz GS.out GB.out).mono ?_
      rintro e w3 ⟨v3, rfl, ho3, hb3⟩
      obtain ⟨a3, c3, rfl⟩ := ho3.form
      have HO3 := Lib.hid ho3; have HB3 := Lib.hid hb3; clear ho3 hb3
      go_wp2
      go_ret2
      exact ⟨_, by rw [E2.out]; rfl, by rw [E1.out]; exact HO3.out.wide HB2.out.size (Nat.le_refl _), HB2.out.trans (HB3.out.mono HB2.out.size)⟩

end Go.Proofs.Ytadnejajbdipoaa
