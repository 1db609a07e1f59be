/- Contracts of the cooling of both packages: half times, temperatures, the time to a temperature. -/
import Derived.Test.YteaijhmgfddjiaaBayL
import Derived.Test.YteaijhmgfddjiaaName
import Derived.Test.YteaijhmgfddjiaaWithin
import Derived.IntWalk
import Derived.Deep.QuietTactic
import Derived.BigQuiet
set_option linter.unusedSimpArgs false
set_option linter.unnecessarySimpa false
set_option linter.unusedVariables false
set_option maxRecDepth 100000
namespace Go.Proofs.Yteaijhmgfddjiaa
open Go.RowKit

theorem sq_bd {k : Nat} (h : k ≤ 30000) : 0 ≤ (k : Int) * k ∧ (k : Int) * k ≤ 900000000 := by
  have : k * k ≤ 30000 * 30000 := Nat.mul_le_mul h h
  rw [← Int.natCast_mul]
  omega
theorem half_int (k : Nat) : ((halfN k : Nat) : Int) = 30 + (k : Int) * k / 200000 := by unfold halfN; simp

theorem halfTime_any (o : Int) (k : Nat) (w : World) (ho : o = halfN k) (hk : k ≤ 30000) :
    Calls Try.prog 84 #[.int .i64 k] w fun e w' => e = .returned (.int .i64 o) ∧ w' = w := by
  obtain ⟨s1, s2⟩ := sq_bd hk
  have H := Lib.hid (ho.trans (half_int k)); clear ho
  go_enter Try.func84, Try.ntmps84
  go_wp2
  go_ret
  exact ⟨ret_int (by rw [H.out]), rfl⟩
theorem l16Half_any (o : Int) (k : Nat) (w : World) (ho : o = halfN k) (hk : k ≤ 30000) :
    Calls Try.prog 110 #[.int .i64 k] w fun e w' => e = .returned (.int .i64 o) ∧ w' = w := by
  obtain ⟨s1, s2⟩ := sq_bd hk
  have H := Lib.hid (ho.trans (half_int k)); clear ho
  go_enter Try.func110, Try.ntmps110
  go_wp2
  go_ret
  exact ⟨ret_int (by rw [H.out]), rfl⟩

theorem afterHalves_any (o : Int) (n : Nat) (w : World) (ho : o = afterN n) (hn : n ≤ 13) :
    Calls Try.prog 94 #[.int .i64 n] w fun e w' => e = .returned (.int .i64 o) ∧ w' = w := by
  have : n = 0 ∨ n = 1 ∨ n = 2 ∨ n = 3 ∨ n = 4 ∨ n = 5 ∨ n = 6 ∨ n = 7 ∨ n = 8 ∨ n = 9 ∨ n = 10 ∨ n = 11 ∨ n = 12 ∨ n = 13 := by omega
  subst ho
  rcases this with rfl | rfl | rfl | rfl | rfl | rfl | rfl | rfl | rfl | rfl | rfl | rfl | rfl | rfl
  all_goals
    go_enter Try.func94, Try.ntmps94
    go_wp2
    go_ret
    exact ⟨rfl, rfl⟩

theorem l16After_any (o : Int) (n : Nat) (w : World) (ho : o = afterN n) (hn : n ≤ 1000) :
    Calls Try.prog 120 #[.int .i64 n] w fun e w' => e = .returned (.int .i64 o) ∧ w' = w := by
  have H := Lib.hid ho; clear ho
  go_enter Try.func120, Try.ntmps120
  go_wp2
  go_loopw [0, 3] (fun i r wr => ∃ j : Nat, j ≤ n ∧ i = .int .i64 ((n - j : Nat) : Int) ∧ r = .int .i64 ((1130 / 2 ^ j : Nat) : Int) ∧ wr = w) (fun i _ _ => (intOf i).toNat)
  case atStart => exact ⟨0, Nat.zero_le _, by go_num, by go_num, rfl⟩
  case round =>
    obtain ⟨j, hj, rfl, rfl, rfl⟩ := hrel
    have hr0 : 1130 / 2 ^ j ≤ 1130 := Nat.div_le_self _ _
    have HS := Lib.hid (show 1130 / 2 ^ (j + 1) = 1130 / 2 ^ j / 2 by rw [Nat.pow_succ, Nat.div_div_eq_div_mul])
    have HZ := Lib.hid (show 1130 / 2 ^ j = 0 → 1130 / 2 ^ n = 0 by
      intro h0
      have h1 := Nat.div_le_div_left (a := 1130) (Nat.pow_le_pow_right (show 0 < 2 by omega) hj) (Nat.pow_pos (show 0 < 2 by omega))
      rw [h0] at h1
      exact Nat.le_zero.1 h1)
    have HJ := Lib.hid (show afterN j = 20 + 1130 / 2 ^ j from rfl)
    have HN := Lib.hid (show afterN n = 20 + 1130 / 2 ^ n from rfl)
    obtain ⟨r, hr⟩ : ∃ r, r = 1130 / 2 ^ j := ⟨_, rfl⟩
    rw [← hr] at hr0 HS HZ HJ ⊢
    clear hr
    by_cases hlt : j < n
    · by_cases h0 : r = 0
      · have HR := Lib.hid (show o = 20 by rw [H.out, HN.out, HZ.out h0]; rfl)
        have HR0 := Lib.hid h0
        have d1 : decide ((0 : Int) < (r : Int)) = false := decide_eq_false (by omega)
        have d2 : ¬ 0 < r := by omega
        clear HZ HN H HJ HS h0
        have d0 : decide ((0 : Int) < ((n - j : Nat) : Int)) = true := decide_eq_true (by omega)
        go_wp2
        go_ret
        exact ⟨ret_int (by rw [HR.out, HR0.out]; rfl), by first | rfl | trivial⟩
      · have d0 : decide ((0 : Int) < ((n - j : Nat) : Int)) = true := decide_eq_true (by omega)
        have d1 : decide ((0 : Int) < (r : Int)) = true := decide_eq_true (by omega)
        go_wp2
        go_roundw
        case rel => exact ⟨j + 1, by omega, by rw [show n - (j + 1) = n - j - 1 by omega]; go_num, by rw [HS.out]; go_num, by first | rfl | trivial⟩
        case measure => simp [intOf]; omega
    · obtain rfl : j = n := by omega
      have d0 : decide ((0 : Int) < ((j - j : Nat) : Int)) = false := decide_eq_false (by omega)
      go_wp2
      go_ret
      exact ⟨ret_int (by rw [H.out, HJ.out]; go_num), by first | rfl | trivial⟩

theorem blend_any (o : Int) (a b h r : Nat) (w : World) (ho : o = (a : Int) + near (((b : Int) - a) * r) h) (ha : a ≤ 1150) (hb : b ≤ 1150) (h1 : 30 ≤ h) (h2 : h ≤ 4530) (hr : r < h) :
    Calls Try.prog 93 #[.int .i64 0, .int .i64 a, .int .i64 h, .int .i64 b, .int .i64 r] w fun e w' => e = .returned (.int .i64 o) ∧ Q w w' := by
  have d0 : decide ((h : Int) ≤ 0) = false := decide_eq_false (by omega)
  have d2 : decide ((h : Int) ≤ (r : Int)) = false := decide_eq_false (by omega)
  by_cases h0 : r = 0
  · subst h0
    have H := Lib.hid (show o = (a : Int) by rw [ho, show (((0 : Nat) : Int)) = 0 from rfl, Int.mul_zero, near_zero (show (0 : Int) < h by omega), Int.add_zero]); clear ho
    go_enter Try.func93, Try.ntmps93
    go_wp2
    go_ret
    exact ⟨ret_int H.out.symm, Q.refl _⟩
  · have d1 : decide ((r : Int) ≤ 0) = false := decide_eq_false (by omega)
    obtain ⟨l1, l2⟩ := line_bd (a := a) (b := b) (r := r) ha hb (by omega)
    obtain ⟨n1, n2⟩ := near_bd (b := (h : Int)) l1 l2 (by clear l1 l2 ho; omega) (by clear l1 l2 ho; omega)
    have H := Lib.hid ho; clear ho
    obtain ⟨g, hg⟩ : ∃ g, g = near (((b : Int) - a) * r) h := ⟨_, rfl⟩
    rw [← hg] at n1 n2
    have HG := Lib.hid hg
    clear hg
    go_enter Try.func93, Try.ntmps93
    go_wp2_with fail
    refine (nearest_any g _ _ _ HG.out (by omega) (by omega) (by omega) (by omega)).mono ?_
    rintro e w1 ⟨rfl, hq⟩
    go_wp2
    go_ret
    exact ⟨ret_int (by rw [H.out, HG.out]), hq⟩
theorem l01Line_any (o : Int) (a b h r : Nat) (w : World) (ho : o = (a : Int) + near (((b : Int) - a) * r) h) (ha : a ≤ 1150) (hb : b ≤ 1150) (h1 : 30 ≤ h) (h2 : h ≤ 4530) (hr : r < h) :
    Calls Try.prog 122 #[.int .i64 0, .int .i64 a, .int .i64 h, .int .i64 b, .int .i64 r] w fun e w' => e = .returned (.int .i64 o) ∧ Q w w' := by
  have d0 : decide ((h : Int) ≤ 0) = false := decide_eq_false (by omega)
  have d2 : decide ((h : Int) ≤ (r : Int)) = false := decide_eq_false (by omega)
  by_cases h0 : r = 0
  · subst h0
    have H := Lib.hid (show o = (a : Int) by rw [ho, show (((0 : Nat) : Int)) = 0 from rfl, Int.mul_zero, near_zero (show (0 : Int) < h by omega), Int.add_zero]); clear ho
    go_enter Try.func122, Try.ntmps122
    go_wp2
    go_ret
    exact ⟨ret_int H.out.symm, Q.refl _⟩
  · have d1 : decide ((r : Int) ≤ 0) = false := decide_eq_false (by omega)
    obtain ⟨l1, l2⟩ := line_bd (a := a) (b := b) (r := r) ha hb (by omega)
    obtain ⟨n1, n2⟩ := near_bd (b := (h : Int)) l1 l2 (by clear l1 l2 ho; omega) (by clear l1 l2 ho; omega)
    have H := Lib.hid ho; clear ho
    obtain ⟨g, hg⟩ : ∃ g, g = near (((b : Int) - a) * r) h := ⟨_, rfl⟩
    rw [← hg] at n1 n2
    have HG := Lib.hid hg
    clear hg
    go_enter Try.func122, Try.ntmps122
    go_wp2_with fail
    refine (l01Div_any g _ _ _ HG.out (by omega) (by omega) (by omega) (by omega)).mono ?_
    rintro e w1 ⟨rfl, hq⟩
    go_wp2
    go_ret
    exact ⟨ret_int (by rw [H.out, HG.out]), Q.refl _⟩

theorem i64_q {q : Int} (h1 : -2000000000000 ≤ q) (h2 : q ≤ 2000000000000) : IntKind.i64.wrap q = q := IntWalk.i64_in _ (by omega)
set_option maxHeartbeats 1000000 in
theorem temperature_any (o : Int) (k t : Nat) (w : World) (ho : o = tempN k t) (hk : k ≤ 30000) (ht : t < 12 * halfN k) :
    Calls Try.prog 85 #[.int .i64 k, .int .i64 t] w fun e w' => e = .returned (.int .i64 o) ∧ Q w w' := by
  obtain ⟨b1, b2⟩ := halfN_bd hk
  have ho2 : o = (afterN (t / halfN k) : Int) + near (((afterN (t / halfN k + 1) : Int) - afterN (t / halfN k)) * (t % halfN k : Nat)) (halfN k) := ho
  obtain ⟨h, hh⟩ : ∃ h, h = halfN k := ⟨_, rfl⟩
  rw [← hh] at b1 b2 ht ho2
  have HH := Lib.hid (show (h : Int) = halfN k by rw [hh]); clear hh ho
  obtain ⟨q, hq⟩ : ∃ q, q = t / h := ⟨_, rfl⟩
  obtain ⟨r, hr⟩ : ∃ r, r = t % h := ⟨_, rfl⟩
  rw [← hq, ← hr] at ho2
  have q1 : q < 12 := by rw [hq]; exact (Nat.div_lt_iff_lt_mul (by omega)).2 (by omega)
  have r1 : r < h := by rw [hr]; exact Nat.mod_lt _ (by omega)
  obtain ⟨a1, a2⟩ := afterN_bd q
  obtain ⟨c1, c2⟩ := afterN_bd (q + 1)
  have HQ := Lib.hid (show (t : Int) / (h : Int) = (q : Int) by rw [hq]; simp)
  have f1 : 0 ≤ (t : Int) / (h : Int) := by rw [HQ.out]; omega
  have f2 : (t : Int) / (h : Int) ≤ 12 := by rw [HQ.out]; omega
  obtain ⟨q2, hq2⟩ : ∃ q2, q2 = q + 1 := ⟨_, rfl⟩
  rw [← hq2] at c1 c2 ho2
  have e1 : IntKind.i64.wrap ((q : Int) + 1) = (q2 : Int) := by rw [i64_q (by omega) (by omega), hq2]; rfl
  have q4 : q ≤ 13 := by omega
  have q3 : q2 ≤ 13 := by omega
  have e2 : (t : Int).tmod (h : Int) = (r : Int) := by rw [hr, Int.tmod_eq_emod_of_nonneg (by omega)]; simp
  have e3 : IntKind.i64.wrap (r : Int) = (r : Int) := i64_q (by omega) (by omega)
  have e4 : ((h : Int) == 0) = false := by simp; omega
  obtain ⟨a, ha⟩ : ∃ a, a = afterN q := ⟨_, rfl⟩
  obtain ⟨c, hc⟩ : ∃ c, c = afterN q2 := ⟨_, rfl⟩
  rw [← ha, ← hc] at ho2
  rw [← ha] at a1 a2
  rw [← hc] at c1 c2
  have HA := Lib.hid (show (a : Int) = afterN q by rw [ha])
  have HC := Lib.hid (show (c : Int) = afterN q2 by rw [hc])
  have HO := Lib.hid ho2
  clear ha hc hq hr ho2 hq2
  go_enter Try.func85, Try.ntmps85
  go_wp2_with fail
  refine (halfTime_any h k _ HH.out hk).mono ?_
  rintro e w1 ⟨rfl, rfl⟩
  go_wp2
  simp only [HQ.out]
  clear f1 f2
  go_quiet (first | (go_at_call 94; with_reducible first | exact Calls.quiet_of_same (afterHalves_any a q _ HA.out q4) | exact Calls.quiet_of_same (afterHalves_any c q2 _ HC.out q3)) | (go_at_call 93; exact quiet_q (blend_any o a c h r _ HO.out a2 c2 b1 b2 r1)))
  go_wp2
  go_ret
  exact ⟨rfl, _, rfl⟩

theorem blendS_any (o : Int) (a b h r : Nat) (w : World) (ho : o = (a : Int) + near (((b : Int) - a) * r) h) (ha : a ≤ 1150) (hb : b ≤ 1150) (h1 : 30 ≤ h) (h2 : h ≤ 4530) (hr : r < h) :
    Calls Try.prog 119 #[.int .i64 0, .int .i64 a, .int .i64 h, .int .i64 b, .int .i64 r] w fun e w' => e = .returned (.int .i64 o) ∧ Q w w' := by
  have HO := Lib.hid ho; clear ho
  have E1 := Lib.hid (show true = decide ((-1000000 : Int) ≤ 0 ∧ (0 : Int) ≤ 1000000) by decide)
  have E2 := Lib.hid (show true = decide ((-1000000 : Int) ≤ (h : Int) ∧ (h : Int) ≤ 1000000) from (decide_eq_true (by omega)).symm)
  have E3 := Lib.hid (show true = decide ((-1000000 : Int) ≤ (a : Int) ∧ (a : Int) ≤ 1000000) from (decide_eq_true (by omega)).symm)
  have E4 := Lib.hid (show true = decide ((-1000000 : Int) ≤ (b : Int) ∧ (b : Int) ≤ 1000000) from (decide_eq_true (by omega)).symm)
  go_enter Try.func119, Try.ntmps119
  go_wp2_with fail
  refine (l00In_any true _ _ _ _ E1.out).mono ?_
  rintro e w1 ⟨rfl, rfl⟩
  go_wp2_with fail
  refine (l00In_any true _ _ _ _ E2.out).mono ?_
  rintro e w2 ⟨rfl, rfl⟩
  go_wp2_with fail
  refine (l00In_any true _ _ _ _ E3.out).mono ?_
  rintro e w3 ⟨rfl, rfl⟩
  go_wp2_with fail
  refine (l00In_any true _ _ _ _ E4.out).mono ?_
  rintro e w4 ⟨rfl, rfl⟩
  go_wp2_with fail
  refine (l01Line_any o a b h r _ HO.out ha hb h1 h2 hr).mono ?_
  rintro e w5 ⟨rfl, hq⟩
  go_wp2
  go_ret
  exact ⟨rfl, hq⟩

set_option maxHeartbeats 1000000 in
theorem l16At_any (o : Int) (k t : Nat) (w : World) (ho : o = tempN k t) (hk : k ≤ 30000) (ht : t < 12 * halfN k) :
    Calls Try.prog 111 #[.int .i64 k, .int .i64 t] w fun e w' => e = .returned (.int .i64 o) ∧ Q w w' := by
  obtain ⟨b1, b2⟩ := halfN_bd hk
  have ho2 : o = (afterN (t / halfN k) : Int) + near (((afterN (t / halfN k + 1) : Int) - afterN (t / halfN k)) * (t % halfN k : Nat)) (halfN k) := ho
  obtain ⟨h, hh⟩ : ∃ h, h = halfN k := ⟨_, rfl⟩
  rw [← hh] at b1 b2 ht ho2
  have HH := Lib.hid (show (h : Int) = halfN k by rw [hh]); clear hh ho
  obtain ⟨q, hq⟩ : ∃ q, q = t / h := ⟨_, rfl⟩
  obtain ⟨r, hr⟩ : ∃ r, r = t % h := ⟨_, rfl⟩
  rw [← hq, ← hr] at ho2
  have q1 : q < 12 := by rw [hq]; exact (Nat.div_lt_iff_lt_mul (by omega)).2 (by omega)
  have r1 : r < h := by rw [hr]; exact Nat.mod_lt _ (by omega)
  obtain ⟨a1, a2⟩ := afterN_bd q
  obtain ⟨c1, c2⟩ := afterN_bd (q + 1)
  obtain ⟨q2, hq2⟩ : ∃ q2, q2 = q + 1 := ⟨_, rfl⟩
  rw [← hq2] at c1 c2 ho2
  have e0 : IntKind.i64.wrap ((t : Int) / (h : Int)) = (q : Int) := by rw [hq, show (t : Int) / (h : Int) = ((t / h : Nat) : Int) by simp, ← hq]; exact i64_q (by omega) (by omega)
  have e1 : IntKind.i64.wrap ((q : Int) + 1) = (q2 : Int) := by rw [i64_q (by omega) (by omega), hq2]; rfl
  have q4 : q ≤ 1000 := by omega
  have q3 : q2 ≤ 1000 := by omega
  have e2 : (t : Int).tmod (h : Int) = (r : Int) := by rw [hr, Int.tmod_eq_emod_of_nonneg (by omega)]; simp
  have e3 : IntKind.i64.wrap (r : Int) = (r : Int) := i64_q (by omega) (by omega)
  have e4 : ((h : Int) == 0) = false := by simp; omega
  have e5 : ¬ h = 0 := by omega
  obtain ⟨a, ha⟩ : ∃ a, a = afterN q := ⟨_, rfl⟩
  obtain ⟨c, hc⟩ : ∃ c, c = afterN q2 := ⟨_, rfl⟩
  rw [← ha, ← hc] at ho2
  rw [← ha] at a1 a2
  rw [← hc] at c1 c2
  have HA := Lib.hid (show (a : Int) = afterN q by rw [ha])
  have HC := Lib.hid (show (c : Int) = afterN q2 by rw [hc])
  have HO := Lib.hid ho2
  clear ha hc hq hr ho2 hq2
  go_enter Try.func111, Try.ntmps111
  go_wp2_with fail
  refine (l16Half_any h k _ HH.out hk).mono ?_
  rintro e w1 ⟨rfl, rfl⟩
  go_wp2
  go_quiet (first | (go_at_call 120; with_reducible first | exact Calls.quiet_of_same (l16After_any a q _ HA.out q4) | exact Calls.quiet_of_same (l16After_any c q2 _ HC.out q3)) | (go_at_call 119; exact quiet_q (blendS_any o a c h r _ HO.out a2 c2 b1 b2 r1)))
  go_wp2
  go_ret
  exact ⟨rfl, _, rfl⟩

set_option maxHeartbeats 1000000 in
theorem timeTo_any (o : Int) (k : Nat) (goal : Int) (w : World) (ho : o = toN k goal) (hk : k ≤ 30000) :
    Calls Try.prog 67 #[.int .i64 k, .int .i64 goal] w fun e w' => e = .returned (.int .i64 o) ∧ Q w w' := by
  obtain ⟨b1, b2⟩ := halfN_bd hk
  obtain ⟨h, hh⟩ : ∃ h, h = halfN k := ⟨_, rfl⟩
  have HO := Lib.hid ho; clear ho
  have HI := Lib.hid (show toF k goal (12 * h) 0 (12 * h) = toN k goal by rw [hh]; rfl)
  rw [← hh] at b1 b2
  have HH := Lib.hid (show (h : Int) = halfN k by rw [hh])
  have HH' := Lib.hid hh; clear hh
  go_enter Try.func67, Try.ntmps67
  go_wp2_with fail
  refine (halfTime_any h k _ HH.out hk).mono ?_
  rintro e w1 ⟨rfl, rfl⟩
  go_wp2
  go_loopw [5, 6] (fun lo hi wr => ∃ f low high : Nat, low ≤ high ∧ high ≤ 12 * h ∧ high - low ≤ f ∧ toF k goal f low high = toN k goal ∧ lo = .int .i64 (low : Int) ∧ hi = .int .i64 (high : Int) ∧ Q w1 wr) (fun lo hi _ => (intOf hi).toNat - (intOf lo).toNat)
  case atStart => exact ⟨12 * h, 0, 12 * h, Nat.zero_le _, Nat.le_refl _, by omega, HI.out, by go_num, by go_num, Q.refl _⟩
  case round =>
    obtain ⟨f, low, high, h1, h2, h3, hf, rfl, rfl, hq⟩ := hrel
    by_cases hlt : low < high
    · obtain ⟨g, rfl⟩ : ∃ g, f = g + 1 := ⟨f - 1, by omega⟩
      obtain ⟨m, hm⟩ : ∃ m, m = (low + high) / 2 := ⟨_, rfl⟩
      have m1 : low ≤ m := by omega
      have m2 : m < high := by omega
      have HM := Lib.hid (show ((low : Int) + (high : Int)) / 2 = (m : Int) by omega)
      have HMT : m < 12 * halfN k := by rw [← HH'.out]; omega
      obtain ⟨c, hc⟩ : ∃ c, c = tempN k m := ⟨_, rfl⟩
      have HC := Lib.hid hc
      by_cases g1 : c ≤ goal
      · have HF := Lib.hid (hf.symm.trans (by rw [toF_cold hlt (by rw [← hm, ← hc]; exact g1), ← hm]))
        have d1 : decide (c ≤ goal) = true := decide_eq_true g1
        clear hf hm hc
        go_wp2_with fail
        simp only [HM.out]
        refine (temperature_any c k m _ HC.out hk HMT).mono ?_
        rintro e w2 ⟨rfl, hq2⟩
        go_wp2
        go_roundw
        case rel => exact ⟨g, low, m, m1, by omega, by omega, HF.out.symm, rfl, rfl, hq.trans hq2⟩
        case measure => simp [intOf]; omega
      · have HF := Lib.hid (hf.symm.trans (by rw [toF_warm hlt (by rw [← hm, ← hc]; exact g1), ← hm]))
        have d1 : decide (c ≤ goal) = false := decide_eq_false g1
        clear hf hm hc
        go_wp2_with fail
        simp only [HM.out]
        refine (temperature_any c k m _ HC.out hk HMT).mono ?_
        rintro e w2 ⟨rfl, hq2⟩
        go_wp2
        go_roundw
        case rel => exact ⟨g, m + 1, high, m2, h2, by omega, HF.out.symm, by go_num, rfl, hq.trans hq2⟩
        case measure => simp [intOf]; omega
    · have HF := Lib.hid (hf.symm.trans (toF_stop hlt)); clear hf
      go_wp2
      go_ret
      exact ⟨ret_int (by rw [HO.out, HF.out]), hq⟩
set_option maxHeartbeats 1000000 in
theorem l16To_any (o : Int) (k : Nat) (goal : Int) (w : World) (ho : o = toN k goal) (hk : k ≤ 30000) :
    Calls Try.prog 95 #[.int .i64 k, .int .i64 goal] w fun e w' => e = .returned (.int .i64 o) ∧ Q w w' := by
  obtain ⟨b1, b2⟩ := halfN_bd hk
  obtain ⟨h, hh⟩ : ∃ h, h = halfN k := ⟨_, rfl⟩
  have HO := Lib.hid ho; clear ho
  have HI := Lib.hid (show toF k goal (12 * h) 0 (12 * h) = toN k goal by rw [hh]; rfl)
  rw [← hh] at b1 b2
  have HH := Lib.hid (show (h : Int) = halfN k by rw [hh])
  have HH' := Lib.hid hh; clear hh
  go_enter Try.func95, Try.ntmps95
  go_wp2_with fail
  refine (l16Half_any h k _ HH.out hk).mono ?_
  rintro e w1 ⟨rfl, rfl⟩
  go_wp2
  go_loopw [5, 6] (fun lo hi wr => ∃ f low high : Nat, low ≤ high ∧ high ≤ 12 * h ∧ high - low ≤ f ∧ toF k goal f low high = toN k goal ∧ lo = .int .i64 (low : Int) ∧ hi = .int .i64 (high : Int) ∧ Q w1 wr) (fun lo hi _ => (intOf hi).toNat - (intOf lo).toNat)
  case atStart => exact ⟨12 * h, 0, 12 * h, Nat.zero_le _, Nat.le_refl _, by omega, HI.out, by go_num, by go_num, Q.refl _⟩
  case round =>
    obtain ⟨f, low, high, h1, h2, h3, hf, rfl, rfl, hq⟩ := hrel
    by_cases hlt : low < high
    · obtain ⟨g, rfl⟩ : ∃ g, f = g + 1 := ⟨f - 1, by omega⟩
      obtain ⟨m, hm⟩ : ∃ m, m = (low + high) / 2 := ⟨_, rfl⟩
      have m1 : low ≤ m := by omega
      have m2 : m < high := by omega
      have HM := Lib.hid (show ((low : Int) + (high : Int)) / 2 = (m : Int) by omega)
      have HMT : m < 12 * halfN k := by rw [← HH'.out]; omega
      obtain ⟨c, hc⟩ : ∃ c, c = tempN k m := ⟨_, rfl⟩
      have HC := Lib.hid hc
      by_cases g1 : c ≤ goal
      · have HF := Lib.hid (hf.symm.trans (by rw [toF_cold hlt (by rw [← hm, ← hc]; exact g1), ← hm]))
        have d1 : decide (c ≤ goal) = true := decide_eq_true g1
        clear hf hm hc
        go_wp2_with fail
        simp only [HM.out]
        refine (l16At_any c k m _ HC.out hk HMT).mono ?_
        rintro e w2 ⟨rfl, hq2⟩
        go_wp2
        go_roundw
        case rel => exact ⟨g, low, m, m1, by omega, by omega, HF.out.symm, rfl, rfl, hq.trans hq2⟩
        case measure => simp [intOf]; omega
      · have HF := Lib.hid (hf.symm.trans (by rw [toF_warm hlt (by rw [← hm, ← hc]; exact g1), ← hm]))
        have d1 : decide (c ≤ goal) = false := decide_eq_false g1
        clear hf hm hc
        go_wp2_with fail
        simp only [HM.out]
        refine (l16At_any c k m _ HC.out hk HMT).mono ?_
        rintro e w2 ⟨rfl, hq2⟩
        go_wp2
        go_roundw
        case rel => exact ⟨g, m + 1, high, m2, h2, by omega, HF.out.symm, by go_num, rfl, hq.trans hq2⟩
        case measure => simp [intOf]; omega
    · have HF := Lib.hid (hf.symm.trans (toF_stop hlt)); clear hf
      go_wp2
      go_ret
      exact ⟨ret_int (by rw [HO.out, HF.out]), hq⟩

end Go.Proofs.Yteaijhmgfddjiaa
