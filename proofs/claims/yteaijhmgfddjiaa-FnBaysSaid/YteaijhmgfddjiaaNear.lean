/- Contracts of abs, nearest and l01Div: the nearest quotient. -/
import Derived.Test.YteaijhmgfddjiaaChecked
import Derived.Test.YteaijhmgfddjiaaRegion
import Derived.IntWalk
import Derived.Deep.QuietTactic
import Derived.BigQuiet
set_option linter.unusedSimpArgs false
set_option linter.unnecessarySimpa false
set_option linter.unusedVariables false
namespace Go.Proofs.Yteaijhmgfddjiaa
open Go.RowKit

/-- The integer nearest to a / b, halves away from 0 (b above 0). -/
def near (a b : Int) : Int := if a < 0 then -((b - 2 * a) / (2 * b)) else (2 * a + b) / (2 * b)

theorem ediv_is {x y q : Int} (hy : 0 < y) (h1 : q * y ≤ x) (h2 : x < q * y + y) : x / y = q := by
  apply Int.le_antisymm
  · exact Int.lt_add_one_iff.1 (Int.ediv_lt_of_lt_mul hy (by rw [Int.add_mul, Int.one_mul]; exact h2))
  · exact Int.le_ediv_of_mul_le hy h1

theorem near_up {a b : Int} (ha : 0 ≤ a) (hb : 0 < b) (h : b - a % b ≤ a % b) : near a b = a / b + 1 := by
  have e := Int.mul_ediv_add_emod a b
  have r1 := Int.emod_nonneg a (by omega : b ≠ 0)
  have r2 := Int.emod_lt_of_pos a hb
  unfold near
  rw [if_neg (by omega)]
  generalize a / b = q at *
  generalize a % b = r at *
  have e1 : (q + 1) * (2 * b) = 2 * (b * q) + 2 * b := by rw [Int.add_mul, Int.one_mul, Int.mul_left_comm q 2 b, Int.mul_comm q b]
  exact ediv_is (by omega) (by rw [e1]; omega) (by rw [e1]; omega)
theorem near_down {a b : Int} (ha : 0 ≤ a) (hb : 0 < b) (h : a % b < b - a % b) : near a b = a / b := by
  have e := Int.mul_ediv_add_emod a b
  have r1 := Int.emod_nonneg a (by omega : b ≠ 0)
  have r2 := Int.emod_lt_of_pos a hb
  unfold near
  rw [if_neg (by omega)]
  generalize a / b = q at *
  generalize a % b = r at *
  have e1 : q * (2 * b) = 2 * (b * q) := by rw [Int.mul_left_comm q 2 b, Int.mul_comm q b]
  exact ediv_is (by omega) (by rw [e1]; omega) (by rw [e1]; omega)
theorem near_neg {a b : Int} (ha : a < 0) : near a b = - near (-a) b := by
  unfold near
  rw [if_pos ha, if_neg (by omega), show b - 2 * a = 2 * -a + b by omega]
theorem near_nonneg {a b : Int} (ha : 0 ≤ a) (hb : 0 < b) : 0 ≤ near a b := by
  unfold near
  rw [if_neg (by omega)]
  exact Int.ediv_nonneg (by omega) (by omega)
theorem near_mono {a a' b : Int} (ha : 0 ≤ a) (h : a ≤ a') (hb : 0 < b) : near a b ≤ near a' b := by
  unfold near
  rw [if_neg (by omega), if_neg (by omega)]
  exact Int.ediv_le_ediv (by omega) (by omega)
theorem near_zero {b : Int} (hb : 0 < b) : near 0 b = 0 := by
  unfold near
  rw [if_neg (by omega)]
  exact Int.ediv_eq_zero_of_lt (by omega) (by omega)

theorem tdiv_bd {a b : Int} (h1 : -2000000000000000000 ≤ a) (h2 : a ≤ 2000000000000000000) (h3 : 1 ≤ b) : -2000000000000000000 ≤ a.tdiv b ∧ a.tdiv b ≤ 2000000000000000000 := by
  by_cases h : 0 ≤ a
  · rw [Int.tdiv_eq_ediv_of_nonneg h]
    have := Int.ediv_nonneg h (show (0 : Int) ≤ b by omega)
    have := Int.ediv_le_self b h
    omega
  · have e : a.tdiv b = -((-a) / b) := by rw [← Int.tdiv_eq_ediv_of_nonneg (by omega), Int.neg_tdiv, Int.neg_neg]
    have := Int.ediv_nonneg (show 0 ≤ -a by omega) (show (0 : Int) ≤ b by omega)
    have := Int.ediv_le_self b (show 0 ≤ -a by omega)
    omega
theorem tm_pos {a b : Int} (ha : ¬ a < 0) : a.tmod b = a % b := Int.tmod_eq_emod_of_nonneg (by omega)
theorem tm_neg {a b : Int} (ha : a < 0) : a.tmod b = -((-a) % b) := by
  rw [← Int.tmod_eq_emod_of_nonneg (by omega), Int.neg_tmod, Int.neg_neg]
theorem td_neg {a b : Int} (ha : a < 0) : a.tdiv b = -((-a) / b) := by rw [← Int.tdiv_eq_ediv_of_nonneg (by omega), Int.neg_tdiv, Int.neg_neg]
theorem near_tneg_up {a b : Int} (ha : a < 0) (hb : 1 ≤ b) (h : b - (if a.tmod b < 0 then -a.tmod b else a.tmod b) ≤ if a.tmod b < 0 then -a.tmod b else a.tmod b) : near a b = a.tdiv b - 1 := by
  have h0 := Int.emod_nonneg (-a) (show b ≠ 0 by omega)
  rw [tm_neg ha] at h
  rw [near_neg ha, td_neg ha, near_up (by omega) (by omega) (by split at h <;> omega)]; omega
theorem near_tneg_down {a b : Int} (ha : a < 0) (hb : 1 ≤ b) (h : (if a.tmod b < 0 then -a.tmod b else a.tmod b) < b - (if a.tmod b < 0 then -a.tmod b else a.tmod b)) : near a b = a.tdiv b := by
  have h0 := Int.emod_nonneg (-a) (show b ≠ 0 by omega)
  rw [tm_neg ha] at h
  rw [near_neg ha, td_neg ha, near_down (by omega) (by omega) (by split at h <;> omega)]
theorem near_tpos_up {a b : Int} (ha : ¬ a < 0) (hb : 1 ≤ b) (h : b - (if a.tmod b < 0 then -a.tmod b else a.tmod b) ≤ if a.tmod b < 0 then -a.tmod b else a.tmod b) : near a b = a.tdiv b + 1 := by
  have h0 := Int.emod_nonneg a (show b ≠ 0 by omega)
  rw [tm_pos ha] at h
  rw [Int.tdiv_eq_ediv_of_nonneg (by omega), near_up (by omega) (by omega) (by split at h <;> omega)]
theorem near_tpos_down {a b : Int} (ha : ¬ a < 0) (hb : 1 ≤ b) (h : (if a.tmod b < 0 then -a.tmod b else a.tmod b) < b - (if a.tmod b < 0 then -a.tmod b else a.tmod b)) : near a b = a.tdiv b := by
  have h0 := Int.emod_nonneg a (show b ≠ 0 by omega)
  rw [tm_pos ha] at h
  rw [Int.tdiv_eq_ediv_of_nonneg (by omega), near_down (by omega) (by omega) (by split at h <;> omega)]

set_option maxHeartbeats 400000 in
theorem l01Div_any (o a b : Int) (w : World) (h : o = near a b) (h1 : -2000000000000000000 ≤ a) (h2 : a ≤ 2000000000000000000) (h3 : 1 ≤ b) (h4 : b ≤ 1000000000000) :
    Calls Try.prog 123 #[.int .i64 a, .int .i64 b] w fun e w' => e = .returned (.int .i64 o) ∧ w' = w := by
  have d0 : decide (b < 0) = false := by simp; omega
  by_cases hn : a < 0
  · have d1 : decide (a < 0) = true := by simpa using hn
    have H := Lib.hid (show o = -((b - 2 * a) / (2 * b)) by rw [h]; unfold near; rw [if_pos hn])
    have q0 := Int.ediv_nonneg (show 0 ≤ b - 2 * a by omega) (show 0 ≤ 2 * b by omega)
    have q1 := Int.ediv_le_self (2 * b) (show 0 ≤ b - 2 * a by omega)
    clear h
    go_enter Try.func123, Try.ntmps123
    go_wp2
    go_ret
    exact ⟨ret_int (by rw [H.out]), rfl⟩
  · have d1 : decide (a < 0) = false := by simpa using hn
    have h5 : 0 ≤ a := by omega
    have H := Lib.hid (show o = (2 * a + b) / (2 * b) by rw [h]; unfold near; rw [if_neg hn])
    clear h
    go_enter Try.func123, Try.ntmps123
    go_wp2
    go_ret
    exact ⟨ret_int (by rw [H.out]), rfl⟩

theorem abs_any (o a : Int) (w : World) (h : o = if a < 0 then -a else a) (h1 : -9223372036854775807 ≤ a) (h2 : a ≤ 9223372036854775807) :
    Calls Try.prog 118 #[.int .i64 a] w fun e w' => e = .returned (.int .i64 o) ∧ w' = w := by
  by_cases hn : a < 0
  · have d1 : decide (a < 0) = true := by simpa using hn
    have H := Lib.hid (show o = -a by rw [h, if_pos hn])
    clear h
    go_enter Try.func118, Try.ntmps118
    go_wp2
    go_ret
    exact ⟨ret_int (by rw [H.out]), rfl⟩
  · have d1 : decide (a < 0) = false := by simpa using hn
    have H := Lib.hid (show o = a by rw [h, if_neg hn])
    clear h
    go_enter Try.func118, Try.ntmps118
    go_wp2
    go_ret
    exact ⟨ret_int (by rw [H.out]), rfl⟩

set_option maxHeartbeats 1000000 in
theorem nearest_any (o a b : Int) (w : World) (h : o = near a b) (h1 : -2000000000000000000 ≤ a) (h2 : a ≤ 2000000000000000000) (h3 : 1 ≤ b) (h4 : b ≤ 1000000000000) :
    Calls Try.prog 109 #[.int .i64 a, .int .i64 b] w fun e w' => e = .returned (.int .i64 o) ∧ Q w w' := by
  have m1 : a.tmod b < b := Int.tmod_lt_of_pos a (by omega)
  have m2 : -b < a.tmod b := Int.lt_tmod_of_pos a (by omega)
  have q1 : -2000000000000000000 ≤ a.tdiv b ∧ a.tdiv b ≤ 2000000000000000000 := tdiv_bd h1 h2 h3
  obtain ⟨q1, q2⟩ := q1
  have g1 : IntKind.i64.wrap (a.tdiv b) = a.tdiv b := IntWalk.i64_in _ (by omega)
  have g2 : IntKind.i64.wrap (a.tmod b) = a.tmod b := IntWalk.i64_in _ (by omega)
  have g3 : (b == 0) = false := by simp; omega
  have g4 : decide (b < 0) = false := by simp; omega
  have g5 : ¬ b = 0 := by omega
  obtain ⟨r, hr⟩ : ∃ r, r = if a.tmod b < 0 then -a.tmod b else a.tmod b := ⟨_, rfl⟩
  have r0 : 0 ≤ r ∧ r < b := by rw [hr]; split <;> omega
  obtain ⟨r0, r1⟩ := r0
  have HR := Lib.hid hr; clear hr
  by_cases ha : a < 0
  · have e1 : decide (a < 0) = true := by simpa using ha
    by_cases hu : b - r ≤ r
    · have e2 : decide (b - r ≤ r) = true := by simpa using hu
      have H := Lib.hid (show o = a.tdiv b - 1 from h.trans (near_tneg_up ha h3 (by rw [← HR.out]; exact hu)))
      clear h
      go_enter Try.func109, Try.ntmps109
      go_wp2_with fail
      go_quiet ((go_at_call 118; exact Calls.quiet_of_same (abs_any r _ _ HR.out (by omega) (by omega))))
      clear g1 g2
      go_wp2_with fail
      refine (abs_any b b _ (by rw [if_neg (by omega)]) (by omega) (by omega)).mono ?_
      rintro e w1 ⟨rfl, rfl⟩
      go_wp2
      go_ret
      exact ⟨ret_int H.out.symm, _, rfl⟩
    · have e2 : decide (b - r ≤ r) = false := by simpa using hu
      have H := Lib.hid (show o = a.tdiv b from h.trans (near_tneg_down ha h3 (by rw [← HR.out]; omega)))
      clear h
      go_enter Try.func109, Try.ntmps109
      go_wp2_with fail
      go_quiet ((go_at_call 118; exact Calls.quiet_of_same (abs_any r _ _ HR.out (by omega) (by omega))))
      clear g1 g2
      go_wp2_with fail
      refine (abs_any b b _ (by rw [if_neg (by omega)]) (by omega) (by omega)).mono ?_
      rintro e w1 ⟨rfl, rfl⟩
      go_wp2
      go_ret
      exact ⟨ret_int H.out.symm, _, rfl⟩
  · have e1 : decide (a < 0) = false := by simpa using ha
    by_cases hu : b - r ≤ r
    · have e2 : decide (b - r ≤ r) = true := by simpa using hu
      have H := Lib.hid (show o = a.tdiv b + 1 from h.trans (near_tpos_up ha h3 (by rw [← HR.out]; exact hu)))
      clear h
      go_enter Try.func109, Try.ntmps109
      go_wp2_with fail
      go_quiet ((go_at_call 118; exact Calls.quiet_of_same (abs_any r _ _ HR.out (by omega) (by omega))))
      clear g1 g2
      go_wp2_with fail
      refine (abs_any b b _ (by rw [if_neg (by omega)]) (by omega) (by omega)).mono ?_
      rintro e w1 ⟨rfl, rfl⟩
      go_wp2
      go_ret
      exact ⟨ret_int H.out.symm, _, rfl⟩
    · have e2 : decide (b - r ≤ r) = false := by simpa using hu
      have H := Lib.hid (show o = a.tdiv b from h.trans (near_tpos_down ha h3 (by rw [← HR.out]; omega)))
      clear h
      go_enter Try.func109, Try.ntmps109
      go_wp2_with fail
      go_quiet ((go_at_call 118; exact Calls.quiet_of_same (abs_any r _ _ HR.out (by omega) (by omega))))
      clear g1 g2
      go_wp2_with fail
      refine (abs_any b b _ (by rw [if_neg (by omega)]) (by omega) (by omega)).mono ?_
      rintro e w1 ⟨rfl, rfl⟩
      go_wp2
      go_ret
      exact ⟨ret_int H.out.symm, _, rfl⟩

end Go.Proofs.Yteaijhmgfddjiaa
