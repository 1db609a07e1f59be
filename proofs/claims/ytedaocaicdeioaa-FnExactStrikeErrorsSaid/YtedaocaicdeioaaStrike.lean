/- Contracts of StrikeErrors of both packages. -/
import Derived.Test.YtedaocaicdeioaaRises
import Derived.Test.YtedaocaicdeioaaNear
import Derived.Test.YtedaocaicdeioaaReg3
import Derived.Test.YtedaocaicdeioaaClI
set_option linter.unusedSimpArgs false
set_option linter.unnecessarySimpa false
set_option linter.unusedVariables false
set_option maxRecDepth 100000
namespace Go.Proofs.Ytedaocaicdeioaa
open Go.RowKit

def StrikeOk (xs : List Int) : Prop := (2 ≤ xs.length ∧ xs.length ≤ 12) ∧ Rises 0 20000 xs
instance (xs : List Int) : Decidable (StrikeOk xs) := by unfold StrikeOk; infer_instance
def strikeT (xs : List Int) (i : Nat) : Int := xs.getD i 0 - xs.getD 0 0 - near ((xs.getD (xs.length - 1) 0 - xs.getD 0 0) * (i : Int)) ((xs.length : Int) - 1)
def strikeL (xs : List Int) (k : Nat) : List Int := (List.range k).map (strikeT xs)
theorem strikeL_len (xs : List Int) (k : Nat) : (strikeL xs k).length = k := by simp [strikeL]
theorem strikeL_step (xs : List Int) (k : Nat) : strikeL xs (k + 1) = strikeL xs k ++ [strikeT xs k] := by simp [strikeL, List.range_succ]
def strikeV (xs : List Int) : List Int := if StrikeOk xs then strikeL xs xs.length else []
def strikeC (xs : List Int) : Int := if StrikeOk xs then 0 else 1
theorem strike_yes {xs : List Int} (h : StrikeOk xs) : strikeV xs = strikeL xs xs.length ∧ strikeC xs = 0 := by unfold strikeV strikeC; rw [if_pos h, if_pos h]; exact ⟨rfl, rfl⟩
theorem strike_no {xs : List Int} (h : ¬ StrikeOk xs) : strikeV xs = [] ∧ strikeC xs = 1 := by unfold strikeV strikeC; rw [if_neg h, if_neg h]; exact ⟨rfl, rfl⟩
theorem strike_len (xs : List Int) : (strikeV xs).length ≤ 1048576 := by
  unfold strikeV; split
  · rename_i h; rw [strikeL_len]; have := h.1; omega
  · simp
theorem near_le {a b : Int} (ha : 0 ≤ a) (hb : 1 ≤ b) : 0 ≤ near a b ∧ near a b ≤ a + 1 := by
  refine ⟨near_nonneg ha (by omega), ?_⟩
  unfold near
  rw [if_neg (by omega)]
  apply Int.le_of_lt_add_one
  apply Int.ediv_lt_of_lt_mul (by omega)
  have h1 : a * 1 ≤ a * b := Int.mul_le_mul_of_nonneg_left hb ha
  have h2 : (a + 1 + 1) * (2 * b) = 2 * (a * b) + 4 * b := by rw [Int.add_mul, Int.add_mul, Int.one_mul, Int.mul_left_comm a 2 b]; omega
  rw [h2]
  omega
theorem strike_rise {xs : List Int} (h : Rises 0 20000 xs) {i : Nat} (hi : i < xs.length) : 0 ≤ xs[i] ∧ xs[i] ≤ 20000 := by
  have := h i hi
  unfold RiseAt at this
  simp [hi] at this
  omega
theorem strike_first {xs : List Int} (h : Rises 0 20000 xs) : ∀ (i : Nat) (hi : i < xs.length), xs[0]'(by omega) ≤ xs[i]
  | 0, _ => Int.le_refl _
  | i + 1, hi => by
    have h1 := strike_first h i (by omega)
    have h2 := (h (i + 1) hi).2.2
    simp [hi, show i < xs.length by omega] at h2
    omega
/-- The bounds of a round. -/
structure StrikeB (xs : List Int) (i : Nat) (x0 xi xn : Int) : Prop where
  d1 : IntKind.i64.wrap (xi - x0) = xi - x0
  d2 : IntKind.i64.wrap (xn - x0) = xn - x0
  m : IntKind.i64.wrap ((xn - x0) * (i : Int)) = (xn - x0) * (i : Int)
  lo : -2000000000000000000 ≤ (xn - x0) * (i : Int)
  hi : (xn - x0) * (i : Int) ≤ 2000000000000000000
  s : IntKind.i64.wrap (xi - x0 - near ((xn - x0) * (i : Int)) ((xs.length : Int) - 1)) = xi - x0 - near ((xn - x0) * (i : Int)) ((xs.length : Int) - 1)
theorem strikeB {xs : List Int} (h : StrikeOk xs) {i : Nat} (hi : i < xs.length) : StrikeB xs i (xs[0]'(by omega)) xs[i] (xs[xs.length - 1]'(by omega)) := by
  have a1 := strike_rise h.2 (i := 0) (by omega)
  have a2 := strike_rise h.2 hi
  have a3 := strike_rise h.2 (i := xs.length - 1) (by omega)
  have a4 := strike_first h.2 (xs.length - 1) (by omega)
  have hl := h.1
  have p1 : 0 ≤ (xs[xs.length - 1]'(by omega) - xs[0]'(by omega)) * (i : Int) := Int.mul_nonneg (by omega) (by omega)
  have p2 : (xs[xs.length - 1]'(by omega) - xs[0]'(by omega)) * (i : Int) ≤ 20000 * 12 := Int.mul_le_mul (by omega) (by omega) (by omega) (by omega)
  have p3 := near_le p1 (show (1 : Int) ≤ (xs.length : Int) - 1 by omega)
  exact ⟨IntWalk.i64_in _ (by omega), IntWalk.i64_in _ (by omega), IntWalk.i64_in _ (by omega), by omega, by omega, IntWalk.i64_in _ (by omega)⟩
theorem strikeT_eq {xs : List Int} {i : Nat} (h : 2 ≤ xs.length) (hi : i < xs.length) : strikeT xs i = xs[i] - xs[0]'(by omega) - near ((xs[xs.length - 1]'(by omega) - xs[0]'(by omega)) * (i : Int)) ((xs.length : Int) - 1) := by
  unfold strikeT
  simp [hi, show 0 < xs.length by omega, show xs.length - 1 < xs.length by omega]

set_option maxHeartbeats 2000000 in
theorem specStrikeErrors_any (v : Value) (xs : List Int) (w : World) (h : RdInts w v xs) (ok : ∀ x ∈ xs, I64 x) (hs : xs.length ≤ 1048576) :
    Calls Try.prog 26 #[v] w fun e w' => ∃ v', e = .returned (.tuple #[v', .int .i64 (strikeC xs)]) ∧ OwnInts w.heap.size w'.heap.size w' v' (strikeV xs) ∧ Below w.heap.size w w' := by
  obtain ⟨a1, ca, rfl, _, _, _⟩ := id h
  by_cases g1 : 2 ≤ xs.length
  rotate_left
  · obtain ⟨e1, e2⟩ := strike_no (xs := xs) (fun h => g1 h.1.1)
    have d1 : decide ((xs.length : Int) < 2) = true := by simp; omega
    have E1 := Lib.hid e1; have E2 := Lib.hid e2; clear e1 e2 g1
    go_enter Try.func26, Try.ntmps26
    go_wp2
    go_ret2
    exact ⟨_, by rw [E2.out]; rfl, by rw [E1.out]; exact OwnInts.nil _ _ _, Below.refl _ _⟩
  have d1 : decide ((xs.length : Int) < 2) = false := by simp; omega
  by_cases g2 : xs.length ≤ 12
  rotate_left
  · obtain ⟨e1, e2⟩ := strike_no (xs := xs) (fun h => g2 h.1.2)
    have d2 : decide (12 < (xs.length : Int)) = true := by simp; omega
    have E1 := Lib.hid e1; have E2 := Lib.hid e2; clear e1 e2 g1 g2
    go_enter Try.func26, Try.ntmps26
    go_wp2
    go_ret2
    exact ⟨_, by rw [E2.out]; rfl, by rw [E1.out]; exact OwnInts.nil _ _ _, Below.refl _ _⟩
  have d2 : decide (12 < (xs.length : Int)) = false := by simp; omega
  by_cases g3 : Rises 0 20000 xs
  rotate_left
  · obtain ⟨e1, e2⟩ := strike_no (xs := xs) (fun h => g3 h.2)
    have dg : decide (Rises 0 20000 xs) = false := by simpa using g3
    have E1 := Lib.hid e1; have E2 := Lib.hid e2; clear e1 e2 g1 g2 g3
    go_enter Try.func26, Try.ntmps26
    go_wp2_with fail
    refine (l00Rises_any _ 0 20000 xs _ h).mono ?_
    rw [dg]
    rintro e w1 ⟨rfl, hq⟩
    go_wp2
    go_ret2
    exact ⟨_, by rw [E2.out]; rfl, by rw [E1.out]; exact OwnInts.nil _ _ _, hq.below _⟩
  · have hok : StrikeOk xs := ⟨⟨g1, g2⟩, g3⟩
    obtain ⟨e1, e2⟩ := strike_yes hok
    have dg : decide (Rises 0 20000 xs) = true := by simpa using g3
    have E1 := Lib.hid e1; have E2 := Lib.hid e2; have OK := Lib.hid hok; clear e1 e2 g3 hok
    have wl : IntKind.i64.wrap ((xs.length : Int) - 1) = (xs.length : Int) - 1 := IntWalk.i64_in _ (by omega)
    go_enter Try.func26, Try.ntmps26
    go_wp2_with fail
    refine (l00Rises_any _ 0 20000 xs _ h).mono ?_
    rw [dg]
    rintro e w1 ⟨rfl, hq⟩
    have hb1 := hq.below w.heap.size
    have HB1 := Lib.hid hb1
    have hz1 := hb1.size
    have HI1 := Lib.hid (Ints.mono h hb1)
    clear hq hb1 dg
    go_wp2_with fail
    go_loopw [5, 6] (fun o i wr => ∃ (k : Nat) (a' : Option Addr) (c' : Nat), k ≤ xs.length ∧ i = .int .i64 (k : Int) ∧ o = .slice a' k c' ∧ wr.ownsRow w1.heap.size 2 1 (.slice a' k c') k ((strikeL xs k).map (Value.int .i64)) ∧ Below w1.heap.size w1 wr) (fun _ i _ => xs.length - (intOf i).toNat)
    case atStart => exact ⟨0, some ⟨w1.heap.size, 0, none⟩, 0, Nat.zero_le _, by go_num, rfl, by simpa [strikeL] using owns_empty w1 2 1 _ (Nat.le_refl _), by (repeat (first | with_reducible exact Below.refl _ _ | with_reducible exact hbw | (with_reducible refine Below.setCell ?_ ?_ _; rotate_left; · first | exact Nat.le_refl _ | omega | (simp; done) | (simp; omega)) | (with_reducible refine Below.alloc ?_ ?_ _; rotate_left; · first | exact Nat.le_refl _ | omega | (simp; done) | (simp; omega)) | with_reducible refine below_drewN ?_ _ | with_reducible refine Below.drew ?_))⟩
    case round =>
      obtain ⟨k, a', c', hk, rfl, rfl, ho, hb⟩ := hrel
      have hz := hb.size
      have HO := Lib.hid ho; clear ho
      by_cases hlt : k < xs.length
      · have dk : decide ((k : Int) ≤ (xs.length : Int) - 1) = true := by simp; omega
        obtain ⟨b2, o2, rfl, x2⟩ := HI1.out.cells (by simp; omega)
        have c0 : w1.cell? ⟨b2, o2, none⟩ = some (.int .i64 (xs[0]'(by omega))) := by have := x2 0 (.int .i64 (xs[0]'(by omega))) (by simp [show 0 < xs.length by omega]); simpa using this
        have ck : w1.cell? ⟨b2, o2 + k, none⟩ = some (.int .i64 xs[k]) := x2 k _ (by simp [hlt])
        have cn : w1.cell? ⟨b2, o2 + (xs.length - 1), none⟩ = some (.int .i64 (xs[xs.length - 1]'(by omega))) := x2 (xs.length - 1) _ (by simp [show xs.length - 1 < xs.length by omega])
        have hbl : b2 < w1.heap.size := World.block_lt_of_cell? _ _ c0
        have c0 := cellB hb c0
        have ck := cellB hb ck
        have cn := cellB hb cn
        have ST := Lib.hid (strikeT_eq g1 hlt)
        obtain ⟨x0, hx0⟩ : ∃ x0, x0 = xs[0]'(by omega) := ⟨_, rfl⟩
        obtain ⟨xk, hxk⟩ : ∃ xk, xk = xs[k] := ⟨_, rfl⟩
        obtain ⟨xn, hxn⟩ : ∃ xn, xn = xs[xs.length - 1]'(by omega) := ⟨_, rfl⟩
        obtain ⟨q1, q2, q3, q4, q5, q6⟩ := strikeB OK.out hlt
        rw [← hx0] at c0 q1 q2 q3 q4 q5 q6
        rw [← hxk] at ck q1 q6
        rw [← hxn] at cn q2 q3 q4 q5 q6
        have STT := Lib.hid (show strikeT xs k = xk - x0 - near ((xn - x0) * (k : Int)) ((xs.length : Int) - 1) by rw [ST.out, hx0, hxk, hxn])
        have zn : ((xs.length : Int) - 1).toNat = xs.length - 1 := by omega
        have f1 : (0 : Int) ≤ (xs.length : Int) - 1 := by omega
        have f2 : (xs.length : Int) - 1 < (xs.length : Int) := by omega
        have f3 : (k : Int) < (xs.length : Int) := by omega
        have f4 : (0 : Int) < (xs.length : Int) := by omega
        have f5 : (1 : Int) ≤ (xs.length : Int) := by omega
        have f6 : ¬ ((xs.length : Int) - 1 < 0) := by omega
        have f7 : ¬ ((xs.length : Int) ≤ (xs.length : Int) - 1) := by omega
        have f8 : 0 < xs.length := by omega
        have f9 : xs.length - 1 < xs.length := by omega
        have nl1 : (1 : Int) ≤ (xs.length : Int) - 1 := by omega
        have nl2 : (xs.length : Int) - 1 ≤ 1000000000000 := by omega
        have hbr : b2 < wr.heap.size := by omega
        have hxt : ∀ o x, (extT wr.drew w1.heap.size wr.heap.size x).cell? ⟨b2, o, none⟩ = wr.drew.cell? ⟨b2, o, none⟩ := fun o x => cell?_extT hbr (.inl hbl)
        clear x2 hx0 hxk hxn
        go_wp2_with fail
        refine wp_region_ord3 [(0, 1), (1, 1), (2, 1), (3, 1), (4, 1), (5, 1), (6, 1), (7, 1), (8, 1), (9, 1), (10, 1), (11, 1), (12, 1), (13, 1), (14, 1), (15, 1), (16, 1), (17, 1), (18, 1), (19, 1), (20, 4), (21, 1), (22, 4), (23, 0), (24, 1)] [20, 22, 23] [23] (w1.heap.size) (wr.heap.size) (by kernel_rfl) (by kernel_rfl) ?_
        (repeat ((first | with_reducible refine wpOrd3_soft (fun K hK => ?_) | with_reducible refine wpOrd3_pre (fun K hK => ?_) | with_reducible refine wpOrd3_late (fun K hK => ?_)); simp only [List.getElem?_toArray, List.getElem?_cons_zero, List.getElem?_cons_succ]; first | (go_simp; refine hK _ ?_) | (simp only [undef]; go_simp; refine hK _ ?_); clear hK K))
        ((first | with_reducible refine wpOrd3_hard ?_ | with_reducible refine wpOrd3_new ?_); simp only [List.getElem?_toArray, List.getElem?_cons_zero, List.getElem?_cons_succ])
        go_wp2_with fail
        refine (l01Div_any _ _ _ _ rfl q4 q5 nl1 nl2).mono ?_
        rintro e w6 ⟨rfl, rfl⟩
        skip
        go_wp2_with fail
        refine And.intro (World.grownBy.refl _ _) ?_
        (repeat ((first | with_reducible refine wpOrd3_soft (fun K hK => ?_) | with_reducible refine wpOrd3_pre (fun K hK => ?_) | with_reducible refine wpOrd3_late (fun K hK => ?_)); simp only [List.getElem?_toArray, List.getElem?_cons_zero, List.getElem?_cons_succ]; first | (go_simp; refine hK _ ?_) | (simp only [undef]; go_simp; refine hK _ ?_); clear hK K))
        ((first | with_reducible refine wpOrd3_hard ?_ | with_reducible refine wpOrd3_new ?_); simp only [List.getElem?_toArray, List.getElem?_cons_zero, List.getElem?_cons_succ])
        go_wp2_with fail
        refine And.intro (grown_of_below (belowA _ _)) ?_
        (repeat ((first | with_reducible refine wpOrd3_soft (fun K hK => ?_) | with_reducible refine wpOrd3_pre (fun K hK => ?_) | with_reducible refine wpOrd3_late (fun K hK => ?_)); simp only [List.getElem?_toArray, List.getElem?_cons_zero, List.getElem?_cons_succ]; first | (go_simp; refine hK _ ?_) | (simp only [undef]; go_simp; refine hK _ ?_); clear hK K))
        ((first | with_reducible refine wpOrd3_hard ?_ | with_reducible refine wpOrd3_new ?_); simp only [List.getElem?_toArray, List.getElem?_cons_zero, List.getElem?_cons_succ])
        refine append_one_atD rfl _ _ 24 rfl w1.heap.size 2 (.int .i64 0) 1 8 Try.underlying24 info_int rfl (by decide) _ k _ rfl (HO.out) [.int .i64 (xk - x0 - near ((xn - x0) * (k : Int)) ((xs.length : Int) - 1))] rfl (by simp [Value.oneCell']) wr.heap.size rfl rfl (by omega) (by decide) (by omega) ?_
        intro a5 c5 w5 ho5 hg5 hb5 
        have hT5 := Touch.of_grown (B := w1.heap.size) (E := wr.heap.size) hg5 (fun q hq => by have := HO.out.lt q hq; omega)
        have HT5 := Lib.hid (hT5); have HO5 := Lib.hid ho5; have HB5 := Lib.hid (hb.trans (undrew hb5))
        clear hT5 ho5 hg5 hb5 c0 ck cn q1 q2 q3 q4 q5 q6
        go_wp2_with fail
        refine And.intro HT5.out ?_
        (repeat ((first | with_reducible refine wpOrd3_soft (fun K hK => ?_) | with_reducible refine wpOrd3_pre (fun K hK => ?_) | with_reducible refine wpOrd3_late (fun K hK => ?_)); simp only [List.getElem?_toArray, List.getElem?_cons_zero, List.getElem?_cons_succ]; first | (go_simp; refine hK _ ?_) | (simp only [undef]; go_simp; refine hK _ ?_); clear hK K))
        (with_reducible refine wpOrd3_nil ?_); refine NoPanic.normal ?_
        go_wp2
        go_roundw
        case rel => exact ⟨k + 1, a5, c5, by omega, by go_num, rfl, by rw [strikeL_step, List.map_append, STT.out]; exact HO5.out, HB5.out⟩
        case measure => simp [intOf] <;> omega
      · obtain rfl : k = xs.length := by omega
        have dk : decide ((xs.length : Int) ≤ (xs.length : Int) - 1) = false := by simp; omega
        go_wp2
        go_ret2
        exact ⟨_, by rw [E2.out]; rfl, by rw [E1.out]; exact (OwnInts.mk' (by rw [strikeL_len]; exact HO.out)).wide hz1 (Nat.le_refl _), HB1.out.trans (hb.mono hz1)⟩


end Go.Proofs.Ytedaocaicdeioaa
