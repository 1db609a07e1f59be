/- Contract of impl.StrikeErrors. -/
import Derived.Test.YtadnejajbdipoaaStrike
set_option linter.unusedSimpArgs false
set_option linter.unnecessarySimpa false
set_option linter.unusedVariables false
set_option maxRecDepth 100000
namespace Go.Proofs.Ytadnejajbdipoaa
open Go.RowKit

set_option maxHeartbeats 4000000 in
theorem implStrikeErrors_any (v : Value) (xs : List Int) (w : World) (h : RdInts w v xs) (ok : ∀ x ∈ xs, I64 x) (hs : xs.length ≤ 1048576) :
    Calls Try.prog 10 #[v] w fun e w' => ∃ v', e = .returned (.tuple #[v', .int .i64 (strikeC xs)]) ∧ OwnInts w.heap.size w'.heap.size w' v' (strikeV xs) ∧ Below w.heap.size w w' := by
  have h : Ints w v xs := h
  obtain ⟨a1, ca, rfl, _, _, _⟩ := id h
  by_cases gl : (2 : Int) ≤ (xs.length : Int) ∧ (xs.length : Int) ≤ 12
  rotate_left
  · obtain ⟨e1, e2⟩ := strike_no (xs := xs) (fun h => gl (by have := h.1; omega))
    have E1 := Lib.hid e1; have E2 := Lib.hid e2; have GL := Lib.hid (noB gl); clear e1 e2 gl
    go_enter Try.func10, Try.ntmps10
    go_wp2_with fail
    refine (sizeI_any _ _ _ _).mono ?_
    rintro e w1 ⟨rfl, rfl⟩
    go_wp2_with fail
    refine (within_any false _ _ _ _ GL.out).mono ?_
    rintro e w2 ⟨rfl, rfl⟩
    go_wp2
    go_ret2
    exact ⟨_, by rw [E2.out]; rfl, by rw [E1.out]; exact OwnInts.nil _ _ _, Below.refl _ _⟩
  have g1 : 2 ≤ xs.length := by omega
  have g2 : xs.length ≤ 12 := by omega
  have GL := Lib.hid (yesB gl); clear gl
  go_enter Try.func10, Try.ntmps10
  go_wp2_with fail
  refine (sizeI_any _ _ _ _).mono ?_
  rintro e w1 ⟨rfl, rfl⟩
  go_wp2_with fail
  refine (within_any true _ _ _ _ GL.out).mono ?_
  rintro e w2 ⟨rfl, rfl⟩
  clear GL
  go_wp2_with fail
  go_loopw [17, 5, 6] (fun i _ _ wr => ∃ k : Nat, k ≤ xs.length ∧ i = .int .i64 (k : Int) ∧ (∀ i, i < k → RiseAt 0 20000 xs i) ∧ wr = w2) (fun i _ _ _ => xs.length - (intOf i).toNat)
  case atStart => exact ⟨0, Nat.zero_le _, by go_num, by intro i h; omega, rfl⟩
  case round =>
    obtain ⟨k, hk, rfl, ht, rfl⟩ := hrel
    have HT := Lib.hid ht; clear ht
    by_cases hlt : k < xs.length
    · obtain ⟨b1, o1, rfl, c1⟩ := h.cells (by simp; omega)
      have d1 : wr.cell? ⟨b1, o1 + k, none⟩ = some (.int .i64 xs[k]) := c1 k _ (by simp [hlt])
      have g1' : xs.getD k 0 = xs[k] := by simp [hlt]
      by_cases hin : 0 ≤ xs[k] ∧ xs[k] ≤ 20000
      · have HI := Lib.hid (yesB hin)
        have HN := Lib.hid hin
        clear hin
        by_cases h0 : 0 < k
        · have d0 : wr.cell? ⟨b1, o1 + (k - 1), none⟩ = some (.int .i64 xs[k - 1]) := c1 (k - 1) _ (by simp)
          have g0 : xs.getD (k - 1) 0 = xs[k - 1] := by simp [show k - 1 < xs.length by omega]
          have G0 := Lib.hid g0
          have G1 := Lib.hid g1'
          clear c1 g0 g1'
          have h0' : decide (0 < (k : Int)) = true := by simpa using h0
          have z1 : ((k : Int) - 1).toNat = k - 1 := by omega
          by_cases hr : xs[k - 1] < xs[k]
          · have hr' : decide (xs[k] ≤ xs[k - 1]) = false := by simpa using hr
            go_wp2_with fail
            refine (within_any true _ _ _ _ HI.out).mono ?_
            rintro e w3 ⟨rfl, rfl⟩
            go_wp2
            go_roundw
            case rel => exact ⟨k + 1, by omega, by go_num, rises_step HT.out ⟨by rw [G1.out]; exact HN.out.1, by rw [G1.out]; exact HN.out.2, .inr (by rw [G0.out, G1.out]; exact hr)⟩, by first | rfl | trivial⟩
            case measure => simp [intOf] <;> omega
          · have hr' : decide (xs[k] ≤ xs[k - 1]) = true := by simpa using hr
            obtain ⟨e1, e2⟩ := strike_no (xs := xs) (fun h => by have := (h.2 k hlt).2.2; rw [G0.out, G1.out] at this; omega)
            have E1 := Lib.hid e1; have E2 := Lib.hid e2; clear e1 e2
            go_wp2_with fail
            refine (within_any true _ _ _ _ HI.out).mono ?_
            rintro e w3 ⟨rfl, rfl⟩
            go_wp2
            go_ret2
            exact ⟨_, by rw [E2.out]; rfl, by rw [E1.out]; exact OwnInts.nil _ _ _, Below.refl _ _⟩
        · have h0' : decide (0 < (k : Int)) = false := by simpa using h0
          have G1 := Lib.hid g1'
          clear c1 g1'
          go_wp2_with fail
          refine (within_any true _ _ _ _ HI.out).mono ?_
          rintro e w3 ⟨rfl, rfl⟩
          go_wp2
          go_roundw
          case rel => exact ⟨k + 1, by omega, by go_num, rises_step HT.out ⟨by rw [G1.out]; exact HN.out.1, by rw [G1.out]; exact HN.out.2, .inl (by omega)⟩, by first | rfl | trivial⟩
          case measure => simp [intOf] <;> omega
      · have HI := Lib.hid (noB hin)
        obtain ⟨e1, e2⟩ := strike_no (xs := xs) (fun h => hin (by have := h.2 k hlt; unfold RiseAt at this; rw [g1'] at this; exact ⟨this.1, this.2.1⟩))
        have E1 := Lib.hid e1; have E2 := Lib.hid e2; clear e1 e2 hin c1 g1'
        go_wp2_with fail
        refine (within_any false _ _ _ _ HI.out).mono ?_
        rintro e w3 ⟨rfl, rfl⟩
        go_wp2
        go_ret2
        exact ⟨_, by rw [E2.out]; rfl, by rw [E1.out]; exact OwnInts.nil _ _ _, Below.refl _ _⟩
    · have hok : StrikeOk xs := ⟨⟨g1, g2⟩, fun i hi => HT.out i (by omega)⟩
      obtain ⟨e1, e2⟩ := strike_yes hok
      have E1 := Lib.hid e1; have E2 := Lib.hid e2; have OK := Lib.hid hok; clear e1 e2 hok
      have wl : IntKind.i64.wrap ((xs.length : Int) - 1) = (xs.length : Int) - 1 := IntWalk.i64_in _ (by omega)
      obtain ⟨w1, rfl⟩ : ∃ w1 : World, w1 = wr := ⟨_, rfl⟩
      have HI1 := Lib.hid h
      clear HT
      go_wp2_with fail
      clear hlt hk
      go_loopw [7, 41, 8, 9] (fun o i _ _ wr => ∃ (k : Nat) (a' : Option Addr) (c' : Nat), k ≤ xs.length ∧ i = .int .i64 (k : Int) ∧ o = .slice a' k c' ∧ wr.ownsRow w1.heap.size 2 1 (.slice a' k c') k ((strikeL xs k).map (Value.int .i64)) ∧ Below w1.heap.size w1 wr) (fun _ i _ _ _ => xs.length - (intOf i).toNat)
      case atStart => exact ⟨0, none, 0, Nat.zero_le _, by go_num, rfl, by simpa [strikeL] using owns_nil _ _ _ _, by (repeat (first | with_reducible exact Below.refl _ _ | with_reducible exact hbw | (with_reducible refine Below.setCell ?_ ?_ _; rotate_left; · first | exact Nat.le_refl _ | omega | (simp; done) | (simp; omega)) | (with_reducible refine Below.alloc ?_ ?_ _; rotate_left; · first | exact Nat.le_refl _ | omega | (simp; done) | (simp; omega)) | with_reducible refine below_drewN ?_ _ | with_reducible refine Below.drew ?_))⟩
      case round =>
        obtain ⟨k, a', c', hk, rfl, rfl, ho, hb⟩ := hrel
        have hz := hb.size
        have HO := Lib.hid ho; clear ho
        by_cases hlt : k < xs.length
        · skip
          obtain ⟨b2, o2, rfl, x2⟩ := HI1.out.cells (by simp; omega)
          have c0 : w1.cell? ⟨b2, o2, none⟩ = some (.int .i64 (xs[0]'(by omega))) := by have := x2 0 (.int .i64 (xs[0]'(by omega))) (by simp [show 0 < xs.length by omega]); simpa using this
          have ck : w1.cell? ⟨b2, o2 + k, none⟩ = some (.int .i64 xs[k]) := x2 k _ (by simp [hlt])
          have cn : w1.cell? ⟨b2, o2 + (xs.length - 1), none⟩ = some (.int .i64 (xs[xs.length - 1]'(by omega))) := x2 (xs.length - 1) _ (by simp [show xs.length - 1 < xs.length by omega])
          have hbl : b2 < w1.heap.size := World.block_lt_of_cell? _ _ c0
          have c0 := cellB hb c0
          have ck := cellB hb ck
          have cn := cellB hb cn
          have ST := Lib.hid (strikeT_eq g1 hlt)
          obtain ⟨x0, hx0⟩ : ∃ x0, x0 = xs[0]'(by omega) := ⟨_, rfl⟩
          obtain ⟨xk, hxk⟩ : ∃ xk, xk = xs[k] := ⟨_, rfl⟩
          obtain ⟨xn, hxn⟩ : ∃ xn, xn = xs[xs.length - 1]'(by omega) := ⟨_, rfl⟩
          obtain ⟨q1, q2, q3, q4, q5, q6⟩ := strikeB OK.out hlt
          rw [← hx0] at c0 q1 q2 q3 q4 q5 q6
          rw [← hxk] at ck q1 q6
          rw [← hxn] at cn q2 q3 q4 q5 q6
          have STT := Lib.hid (show strikeT xs k = xk - x0 - near ((xn - x0) * (k : Int)) ((xs.length : Int) - 1) by rw [ST.out, hx0, hxk, hxn])
          have zn : ((xs.length : Int) - 1).toNat = xs.length - 1 := by omega
          have f1 : (0 : Int) ≤ (xs.length : Int) - 1 := by omega
          have f2 : (xs.length : Int) - 1 < (xs.length : Int) := by omega
          have f3 : (k : Int) < (xs.length : Int) := by omega
          have f4 : (0 : Int) < (xs.length : Int) := by omega
          have f5 : (1 : Int) ≤ (xs.length : Int) := by omega
          have f6 : ¬ ((xs.length : Int) - 1 < 0) := by omega
          have f7 : ¬ ((xs.length : Int) ≤ (xs.length : Int) - 1) := by omega
          have f8 : 0 < xs.length := by omega
          have f9 : xs.length - 1 < xs.length := by omega
          have nl1 : (1 : Int) ≤ (xs.length : Int) - 1 := by omega
          have nl2 : (xs.length : Int) - 1 ≤ 1000000000000 := by omega
          have hbr : b2 < wr.heap.size := by omega
          have hxt : ∀ o x, (extT wr.drew w1.heap.size wr.heap.size x).cell? ⟨b2, o, none⟩ = wr.drew.cell? ⟨b2, o, none⟩ := fun o x => cell?_extT hbr (.inl hbl)
          clear x2 hx0 hxk hxn
          go_wp2_with fail
          refine wp_region_ord3 [(0, 1), (1, 1), (2, 1), (3, 1), (4, 1), (5, 1), (6, 1), (7, 1), (8, 1), (9, 1), (10, 1), (11, 1), (12, 1), (13, 1), (14, 1), (15, 1), (16, 1), (17, 1), (18, 1), (19, 4), (20, 1), (21, 4), (22, 0), (23, 1)] [19, 21, 22] [22] (w1.heap.size) (wr.heap.size) (by kernel_rfl) (by kernel_rfl) ?_
          (repeat ((first | with_reducible refine wpOrd3_soft (fun K hK => ?_) | with_reducible refine wpOrd3_pre (fun K hK => ?_) | with_reducible refine wpOrd3_late (fun K hK => ?_)); simp only [List.getElem?_toArray, List.getElem?_cons_zero, List.getElem?_cons_succ]; first | (go_simp; refine hK _ ?_) | (simp only [undef]; go_simp; refine hK _ ?_); clear hK K))
          ((first | with_reducible refine wpOrd3_hard ?_ | with_reducible refine wpOrd3_new ?_); simp only [List.getElem?_toArray, List.getElem?_cons_zero, List.getElem?_cons_succ])
          go_wp2_with fail
          refine (nearest_any _ _ _ _ rfl q4 q5 nl1 nl2).mono ?_
          rintro e w6 ⟨rfl, hq6⟩
          have hb6 := hq6.below wr.heap.size; have hz6 : wr.heap.size ≤ w6.heap.size := hb6.size
          go_wp2_with fail
          refine And.intro (grown_of_below (show Below wr.drew.heap.size wr.drew w6 from hb6)) ?_
          (repeat ((first | with_reducible refine wpOrd3_soft (fun K hK => ?_) | with_reducible refine wpOrd3_pre (fun K hK => ?_) | with_reducible refine wpOrd3_late (fun K hK => ?_)); simp only [List.getElem?_toArray, List.getElem?_cons_zero, List.getElem?_cons_succ]; first | (go_simp; refine hK _ ?_) | (simp only [undef]; go_simp; refine hK _ ?_); clear hK K))
          ((first | with_reducible refine wpOrd3_hard ?_ | with_reducible refine wpOrd3_new ?_); simp only [List.getElem?_toArray, List.getElem?_cons_zero, List.getElem?_cons_succ])
          go_wp2_with fail
          refine And.intro (grown_trans (grown_of_below (show Below wr.drew.heap.size wr.drew w6 from hb6)) (grown_of_below (belowA _ _))) ?_
          (repeat ((first | with_reducible refine wpOrd3_soft (fun K hK => ?_) | with_reducible refine wpOrd3_pre (fun K hK => ?_) | with_reducible refine wpOrd3_late (fun K hK => ?_)); simp only [List.getElem?_toArray, List.getElem?_cons_zero, List.getElem?_cons_succ]; first | (go_simp; refine hK _ ?_) | (simp only [undef]; go_simp; refine hK _ ?_); clear hK K))
          ((first | with_reducible refine wpOrd3_hard ?_ | with_reducible refine wpOrd3_new ?_); simp only [List.getElem?_toArray, List.getElem?_cons_zero, List.getElem?_cons_succ])
          refine append_one_at rfl _ _ 24 rfl w1.heap.size 2 (.int .i64 0) 1 8 Try.underlying24 info_int rfl (by decide) _ k _ rfl (owns_mono HO.out (undrew hb6)) [.int .i64 (xk - x0 - near ((xn - x0) * (k : Int)) ((xs.length : Int) - 1))] rfl (by simp [Value.oneCell']) w6.heap.size rfl rfl (by omega) (by decide) (by omega) ?_
          intro a5 c5 w5 ho5 hg5 hb5 _
          have hT5 := Touch.of_grown (B := w1.heap.size) (E := wr.heap.size) hg5 (fun q hq => by have := HO.out.lt q hq; omega)
          have HT5 := Lib.hid (Touch.trans (touch_row (grown_of_below (show Below wr.drew.heap.size wr.drew w6 from hb6))) hT5); have HO5 := Lib.hid ho5; have HB5 := Lib.hid ((hb.trans ((undrew hb6).mono hz)).trans hb5)
          clear hT5 ho5 hg5 hb5 c0 ck cn q1 q2 q3 q4 q5 q6
          go_wp2_with fail
          refine And.intro HT5.out ?_
          (repeat ((first | with_reducible refine wpOrd3_soft (fun K hK => ?_) | with_reducible refine wpOrd3_pre (fun K hK => ?_) | with_reducible refine wpOrd3_late (fun K hK => ?_)); simp only [List.getElem?_toArray, List.getElem?_cons_zero, List.getElem?_cons_succ]; first | (go_simp; refine hK _ ?_) | (simp only [undef]; go_simp; refine hK _ ?_); clear hK K))
          (with_reducible refine wpOrd3_nil ?_); refine NoPanic.normal ?_
          go_wp2
          go_roundw
          case rel => exact ⟨k + 1, a5, c5, by omega, by go_num, rfl, by rw [strikeL_step, List.map_append, STT.out]; exact HO5.out, HB5.out⟩
          case measure => simp [intOf] <;> omega
        · obtain rfl : k = xs.length := by omega
          go_wp2
          go_ret2
          exact ⟨_, by rw [E2.out]; rfl, by rw [E1.out]; exact OwnInts.mk' (by rw [strikeL_len]; exact HO.out), hb⟩

end Go.Proofs.Ytadnejajbdipoaa
