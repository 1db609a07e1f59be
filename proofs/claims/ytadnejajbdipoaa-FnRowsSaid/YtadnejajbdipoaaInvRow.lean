/- Contracts of InverseRow of both packages. -/
import Derived.Test.YtadnejajbdipoaaComp
set_option linter.unusedSimpArgs false
set_option linter.unnecessarySimpa false
set_option linter.unusedVariables false
set_option maxRecDepth 100000
namespace Go.Proofs.Ytadnejajbdipoaa
open Go.RowKit

theorem iv_yes {xs : List Int} (h : RowOk xs) : invV xs = invTo xs xs.length ∧ invC xs = 0 := by unfold invV invC; rw [if_pos h, if_pos h]; exact ⟨rfl, rfl⟩
theorem iv_no {xs : List Int} (h : ¬ RowOk xs) : invV xs = [] ∧ invC xs = 1 := by unfold invV invC; rw [if_neg h, if_neg h]; exact ⟨rfl, rfl⟩

set_option maxHeartbeats 1000000 in
theorem implInverseRow_any (v : Value) (xs : List Int) (w : World) (h : RdInts w v xs) (ok : ∀ x ∈ xs, I64 x) (hs : xs.length ≤ 1048576) :
    Calls Try.prog 28 #[v] w fun e w' => ∃ v', e = .returned (.tuple #[v', .int .i64 (invC xs)]) ∧ OwnInts w.heap.size w'.heap.size w' v' (invV xs) ∧ Below w.heap.size w w' := by
  obtain ⟨a1, ca, rfl, _, _, _⟩ := id h
  by_cases g : RowOk xs
  rotate_left
  · obtain ⟨e1, e2⟩ := iv_no g
    have E1 := Lib.hid e1; have E2 := Lib.hid e2; have G := Lib.hid (rowB_no g); clear e1 e2 g
    go_enter Try.func28, Try.ntmps28
    go_wp2_with fail
    refine (implValidRow_any _ xs _ h ok hs).mono ?_
    rw [G.out]
    rintro e w1 ⟨rfl, hb1⟩
    skip
    go_wp2
    go_ret2
    exact ⟨_, by rw [E2.out]; rfl, by rw [E1.out]; exact OwnInts.nil _ _ _, hb1⟩
  · obtain ⟨e1, e2⟩ := iv_yes g
    obtain ⟨i0, hi, hz0, hz1, hz2⟩ := info_parts info_int
    have hst := g.stage
    unfold stage at hst
    have HM := Lib.hid g.mem
    have E1 := Lib.hid e1; have E2 := Lib.hid e2; have G := Lib.hid (rowB_yes g); have HS := Lib.hid hst; clear e1 e2 g hst
    go_enter Try.func28, Try.ntmps28
    go_wp2_with fail
    refine (implValidRow_any _ xs _ h ok hs).mono ?_
    rw [G.out]
    rintro e w1 ⟨rfl, hb1⟩
    skip
    have hz1' := hb1.size
    go_wp2_with (at_make; refine wpList_make_full _ rfl _ _ 24 rfl w1.heap.size 2 i0 (.int .i64 0) 1 Try.underlying24 hi hz0 hz1 _ _ _ _ xs.length rfl rfl rfl rfl (by rw [hz2]; have := HS.out; omega) (by have := HS.out; unfold maxLen; omega) (Nat.le_refl _) ?_)
    intro w2 hown hgrow
    have hb2 : Below w.heap.size w w2 := hb1.grown hgrow hz1' (by simp <;> omega)
    have hown2 : w2.ownsRow w.heap.size 2 1 (.slice (some ⟨w1.heap.size, 0, none⟩) xs.length xs.length) xs.length ((invTo xs 0).map (Value.int .i64)) := owns_base (by simpa [toList_madeCells_one, Value.cells, invTo] using hown) hz1'
    have HO2 := Lib.hid hown2; have HB2 := Lib.hid hb2
    clear hown hgrow hown2 hb2
    go_wp2_with fail
    go_loopw [15, 5, 6] (fun i _ _ wr => ∃ k : Nat, k ≤ xs.length ∧ i = .int .i64 (k : Int) ∧ wr.ownsRow w.heap.size 2 1 (.slice (some ⟨w1.heap.size, 0, none⟩) xs.length xs.length) xs.length ((invTo xs k).map (Value.int .i64)) ∧ Below w.heap.size w wr) (fun i _ _ _ => xs.length - (intOf i).toNat)
    case atStart => exact ⟨0, Nat.zero_le _, by go_num, HO2.out, HB2.out⟩
    case round =>
      obtain ⟨k, hk, rfl, ho, hb⟩ := hrel
      by_cases hlt : k < xs.length
      · obtain ⟨b1, o1, rfl, x1⟩ := (Ints.mono h hb).cells (by simp; omega)
        have d1 : wr.cell? ⟨b1, o1 + k, none⟩ = some (.int .i64 xs[k]) := x1 k _ (by simp [hlt])
        obtain ⟨m1, m2⟩ := HM.out xs[k] (List.getElem_mem hlt)
        obtain ⟨p, hp⟩ : ∃ p : Nat, p = (xs[k] - 1).toNat := ⟨_, rfl⟩
        have hpl : p < xs.length := by omega
        have hlen := invTo_len xs k
        obtain ⟨u, d2⟩ : ∃ u, wr.cell? ⟨w1.heap.size, p, none⟩ = some (.int .i64 u) := ⟨(invTo xs k)[p]'(by omega), by
          rw [ho.cellAt p (by omega), List.getElem?_map, List.getElem?_eq_getElem (by omega)]; rfl⟩
        have d3 := ho.frozenAt p
        have st := ho.stored p (.int .i64 ((k : Int) + 1))
        have st2 : (wr.setCell ⟨w1.heap.size, p, none⟩ (.int .i64 ((k : Int) + 1))).ownsRow w.heap.size 2 1 (.slice (some ⟨w1.heap.size, 0, none⟩) xs.length xs.length) xs.length ((invTo xs (k + 1)).map (Value.int .i64)) := by
          unfold invTo
          rw [List.map_set, show (xs.getD k 0 - 1).toNat = p by rw [hp]; simp [hlt]]
          exact st.1
        have hb3 : Below w.heap.size w (wr.setCell ⟨w1.heap.size, p, none⟩ (.int .i64 ((k : Int) + 1))) := hb.setCell (by simpa using hz1') _
        have ST := Lib.hid st2; have HB3 := Lib.hid hb3
        have z1 : (xs[k] - 1).toNat = p := hp.symm
        have w1' : IntKind.i64.wrap (xs[k] - 1) = xs[k] - 1 := IntWalk.i64_in _ (by omega)
        have w2' : IntKind.i64.wrap ((k : Int) + 1) = (k : Int) + 1 := IntWalk.i64_in _ (by omega)
        have q1 : (0 : Int) ≤ xs[k] - 1 := by omega
        have q2 : xs[k] - 1 < (xs.length : Int) := by omega
        have q3 : xs[k] < (xs.length : Int) + 1 := by omega
        have q4 : ¬ (xs[k] - 1 < 0) := by omega
        have q5 : ¬ ((xs.length : Int) ≤ xs[k] - 1) := by omega
        have q6 : w1.heap.size < wr.heap.size := (ho.lt _ rfl).2
        clear st st2 hb3 ho hb hp x1
        go_wp2
        go_roundw
        case rel => exact ⟨k + 1, by omega, by go_num, ST.out, HB3.out⟩
        case measure => simp [intOf] <;> omega
      · obtain rfl : k = xs.length := by omega
        have HO := Lib.hid ho
        clear ho
        go_wp2
        go_ret2
        exact ⟨_, by rw [E2.out]; rfl, by rw [E1.out]; exact OwnInts.mk' (by rw [invTo_len]; exact HO.out), hb⟩


end Go.Proofs.Ytadnejajbdipoaa
