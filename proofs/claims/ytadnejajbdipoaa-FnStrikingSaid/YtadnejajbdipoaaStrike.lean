/- Contracts of StrikeErrors of both packages. -/
import Derived.Test.YtadnejajbdipoaaRises
import Derived.Test.YtadnejajbdipoaaNear
import Derived.Test.YtadnejajbdipoaaReg3
import Derived.Test.YtadnejajbdipoaaClI
set_option linter.unusedSimpArgs false
set_option linter.unnecessarySimpa false
set_option linter.unusedVariables false
set_option maxRecDepth 100000
namespace Go.Proofs.Ytadnejajbdipoaa
open Go.RowKit

def StrikeOk (xs : List Int) : Prop := (2 ≤ xs.length ∧ xs.length ≤ 12) ∧ Rises 0 20000 xs
instance (xs : List Int) : Decidable (StrikeOk xs) := by unfold StrikeOk; infer_instance
def strikeT (xs : List Int) (i : Nat) : Int := xs.getD i 0 - xs.getD 0 0 - near ((xs.getD (xs.length - 1) 0 - xs.getD 0 0) * (i : Int)) ((xs.length : Int) - 1)
def strikeL (xs : List Int) (k : Nat) : List Int := (List.range k).map (strikeT xs)
theorem strikeL_len (xs : List Int) (k : Nat) : (strikeL xs k).length = k := by simp [strikeL]
theorem strikeL_step (xs : List Int) (k : Nat) : strikeL xs (k + 1) = strikeL xs k ++ [strikeT xs k] := by simp [strikeL, List.range_succ]
def strikeV (xs : List Int) : List Int := if StrikeOk xs then strikeL xs xs.length else []
def strikeC (xs : List Int) : Int := if StrikeOk xs then 0 else 1
theorem strike_yes {xs : List Int} (h : StrikeOk xs) : strikeV xs = strikeL xs xs.length ∧ strikeC xs = 0 := by unfold strikeV strikeC; rw [if_pos h, if_pos h]; exact ⟨rfl, rfl⟩
theorem strike_no {xs : List Int} (h : ¬ StrikeOk xs) : strikeV xs = [] ∧ strikeC xs = 1 := by unfold strikeV strikeC; rw [if_neg h, if_neg h]; exact ⟨rfl, rfl⟩
theorem strike_len (xs : List Int) : (strikeV xs).length ≤ 1048576 := by
  unfold strikeV; split
  · rename_i h; rw [strikeL_len]; have := h.1; omega
  · simp
theorem near_le {a b : Int} (ha : 0 ≤ a) (hb : 1 ≤ b) : 0 ≤ near a b ∧ near a b ≤ a + 1 := by
  refine ⟨near_nonneg ha (by omega), ?_⟩
  unfold near
  rw [if_neg (by omega)]
  apply Int.le_of_lt_add_one
  apply Int.ediv_lt_of_lt_mul (by omega)
  have h1 : a * 1 ≤ a * b := Int.mul_le_mul_of_nonneg_left hb ha
  have h2 : (a + 1 + 1) * (2 * b) = 2 * (a * b) + 4 * b := by rw [Int.add_mul, Int.add_mul, Int.one_mul, Int.mul_left_comm a 2 b]; omega
  rw [h2]
  omega
theorem strike_rise {xs : List Int} (h : Rises 0 20000 xs) {i : Nat} (hi : i < xs.length) : 0 ≤ xs[i] ∧ xs[i] ≤ 20000 := by
  have := h i hi
  unfold RiseAt at this
  simp [hi] at this
  omega
theorem strike_first {xs : List Int} (h : Rises 0 20000 xs) : ∀ (i : Nat) (hi : i < xs.length), xs[0]'(by omega) ≤ xs[i]
  | 0, _ => Int.le_refl _
  | i + 1, hi => by
    have h1 := strike_first h i (by omega)
    have h2 := (h (i + 1) hi).2.2
    simp [hi, show i < xs.length by omega] at h2
    omega
/-- The bounds of a round. -/
structure StrikeB (xs : List Int) (i : Nat) (x0 xi xn : Int) : Prop where
  d1 : IntKind.i64.wrap (xi - x0) = xi - x0
  d2 : IntKind.i64.wrap (xn - x0) = xn - x0
  m : IntKind.i64.wrap ((xn - x0) * (i : Int)) = (xn - x0) * (i : Int)
  lo : -2000000000000000000 ≤ (xn - x0) * (i : Int)
  hi : (xn - x0) * (i : Int) ≤ 2000000000000000000
  s : IntKind.i64.wrap (xi - x0 - near ((xn - x0) * (i : Int)) ((xs.length : Int) - 1)) = xi - x0 - near ((xn - x0) * (i : Int)) ((xs.length : Int) - 1)
theorem strikeB {xs : List Int} (h : StrikeOk xs) {i : Nat} (hi : i < xs.length) : StrikeB xs i (xs[0]'(by omega)) xs[i] (xs[xs.length - 1]'(by omega)) := by
  have a1 := strike_rise h.2 (i := 0) (by omega)
  have a2 := strike_rise h.2 hi
  have a3 := strike_rise h.2 (i := xs.length - 1) (by omega)
  have a4 := strike_first h.2 (xs.length - 1) (by omega)
  have hl := h.1
  have p1 : 0 ≤ (xs[xs.length - 1]'(by omega) - xs[0]'(by omega)) * (i : Int) := Int.mul_nonneg (by omega) (by omega)
  have p2 : (xs[xs.length - 1]'(by omega) - xs[0]'(by omega)) * (i : Int) ≤ 20000 * 12 := Int.mul_le_mul (by omega) (by omega) (by omega) (by omega)
  have p3 := near_le p1 (show (1 : Int) ≤ (xs.length : Int) - 1 by omega)
  exact ⟨IntWalk.i64_in _ (by omega), IntWalk.i64_in _ (by omega), IntWalk.i64_in _ (by omega), by omega, by omega, IntWalk.i64_in _ (by omega)⟩
theorem strikeT_eq {xs : List Int} {i : Nat} (h : 2 ≤ xs.length) (hi : i < xs.length) : strikeT xs i = xs[i] - xs[0]'(by omega) - near ((xs[xs.length - 1]'(by omega) - xs[0]'(by omega)) * (i : Int)) ((xs.length : Int) - 1) := by
  unfold strikeT
  simp [hi, show 0 < xs.length by omega, show xs.length - 1 < xs.length by omega]

end Go.Proofs.Ytadnejajbdipoaa
