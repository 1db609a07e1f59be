import Derived.Test.YtenedpboehkmjaaGreatShelf
import Derived.Test.YtenedpboehkmjaaGreatChecked
import Derived.Test.YtenedpboehkmjaaGreatSpZ1
import Derived.IntWalk
import Derived.Test.YtenedpboehkmjaaGreatSpZ6
import Derived.Test.YtenedpboehkmjaaGreatSpZ8
import Derived.Test.YtenedpboehkmjaaGreatSpZ4
/- The logarithm of both packages, at frequencies. -/
set_option linter.unusedSimpArgs false
set_option linter.unnecessarySimpa false
set_option linter.unusedVariables false
set_option maxRecDepth 100000
namespace Go.Proofs.YtenedpboehkmjaaGreat
open Go.RowKit

def hzOk (f : Int) : Prop := 10000 ≤ f ∧ f ≤ 20000000
/-- The bits of the fraction. -/
def fineF : Nat → Int → Int → Int
  | 0, _, r => r
  | k + 1, x, r => if 2147483648 ≤ x * x / 1073741824 then fineF k (x * x / 1073741824 / 2) (r * 2 + 1) else fineF k (x * x / 1073741824) (r * 2)
theorem sq_x {x : Int} (h0 : 1073741824 ≤ x) (h1 : x ≤ 2147483647) : 1073741824 * 1073741824 ≤ x * x ∧ x * x ≤ 2147483647 * 2147483647 :=
  ⟨Int.mul_le_mul h0 h0 (by omega) (by omega), Int.mul_le_mul h1 h1 (by omega) (by omega)⟩
structure XOk (x : Int) : Prop where
  low : 1073741824 ≤ x
  high : x ≤ 2147483647
theorem XOk.big {x : Int} (h : XOk x) (g : 2147483648 ≤ x * x / 1073741824) : XOk (x * x / 1073741824 / 2) := by
  have := sq_x h.low h.high
  exact ⟨by omega, by omega⟩
theorem XOk.small {x : Int} (h : XOk x) (g : ¬ 2147483648 ≤ x * x / 1073741824) : XOk (x * x / 1073741824) := by
  have := sq_x h.low h.high
  exact ⟨by omega, by omega⟩
theorem dbl (r P : Int) : (r + 1) * (2 * P) = 2 * (r * P) + 2 * P ∧ (r * 2 + 1 + 1) * P = 2 * (r * P) + 2 * P ∧ (r * 2 + 1) * P = 2 * (r * P) + P := by
  have h1 : r * (2 * P) = 2 * (r * P) := by rw [← Int.mul_assoc, Int.mul_comm r 2, Int.mul_assoc]
  have h2 : r * 2 * P = 2 * (r * P) := by rw [Int.mul_comm r 2, Int.mul_assoc]
  refine ⟨?_, ?_, ?_⟩
  · rw [Int.add_mul, h1, Int.one_mul]
  · rw [Int.add_mul, Int.add_mul, h2, Int.one_mul]; omega
  · rw [Int.add_mul, h2, Int.one_mul]
theorem fineF_bd : ∀ (k : Nat) (x r : Int), 0 ≤ r → 0 ≤ fineF k x r ∧ fineF k x r ≤ (r + 1) * 2 ^ k - 1
  | 0, x, r, h => by simp [fineF]; omega
  | k + 1, x, r, h => by
    have e : (2 : Int) ^ (k + 1) = 2 * 2 ^ k := by rw [Int.pow_succ]; omega
    have p : (0 : Int) < 2 ^ k := Int.pow_pos (by omega)
    obtain ⟨d1, d2, d3⟩ := dbl r (2 ^ k)
    rw [e]
    unfold fineF
    split
    · have := fineF_bd k (x * x / 1073741824 / 2) (r * 2 + 1) (by omega)
      omega
    · have := fineF_bd k (x * x / 1073741824) (r * 2) (by omega)
      omega
def fineV (n : Nat) : Int := (n.log2 : Int) * 16777216 + fineF 24 ((n * 2 ^ (30 - n.log2) : Nat) : Int) 0
structure LogOk (n e : Nat) : Prop where
  eq : e = n.log2
  low : 2 ^ e ≤ n
  high : n < 2 ^ (e + 1)
  e0 : 13 ≤ e
  e1 : e ≤ 24
theorem log_ok {n : Nat} (h0 : 10000 ≤ n) (h1 : n ≤ 20000000) : LogOk n n.log2 := by
  have a := Nat.log2_self_le (n := n) (by omega)
  have b := Nat.lt_log2_self (n := n)
  refine ⟨rfl, a, b, ?_, ?_⟩
  · refine Nat.le_of_not_lt fun h => ?_
    have : 2 ^ (n.log2 + 1) ≤ 2 ^ 13 := Nat.pow_le_pow_right (by omega) (by omega)
    omega
  · refine Nat.le_of_not_lt fun h => ?_
    have : 2 ^ 25 ≤ 2 ^ n.log2 := Nat.pow_le_pow_right (by omega) (by omega)
    omega
theorem LogOk.x {n e : Nat} (h : LogOk n e) : XOk ((n * 2 ^ (30 - e) : Nat) : Int) := by
  have h1 := h.low; have h2 := h.high; have h3 := h.e1
  have e1 : 2 ^ e * 2 ^ (30 - e) = 1073741824 := by rw [← Nat.pow_add, show e + (30 - e) = 30 by omega]
  have e2 : 2 ^ (e + 1) * 2 ^ (30 - e) = 2147483648 := by rw [← Nat.pow_add, show e + 1 + (30 - e) = 31 by omega]
  have a : 2 ^ e * 2 ^ (30 - e) ≤ n * 2 ^ (30 - e) := Nat.mul_le_mul_right _ h1
  have b : n * 2 ^ (30 - e) < 2 ^ (e + 1) * 2 ^ (30 - e) := Nat.mul_lt_mul_of_pos_right h2 (Nat.pow_pos (by omega))
  exact ⟨by omega, by omega⟩
theorem fineV_bd {n : Nat} (h0 : 10000 ≤ n) (h1 : n ≤ 20000000) : 0 ≤ fineV n ∧ fineV n ≤ 419430399 := by
  have hl := log_ok h0 h1
  have := fineF_bd 24 ((n * 2 ^ (30 - n.log2) : Nat) : Int) 0 (by omega)
  have h2 := hl.e1
  unfold fineV
  simp at this ⊢
  omega
def logV (n : Nat) : Int := 12000 * fineV n / 16777216
theorem logV_bd {n : Nat} (h0 : 10000 ≤ n) (h1 : n ≤ 20000000) : 0 ≤ logV n ∧ logV n ≤ 1000000 := by
  have := fineV_bd h0 h1
  unfold logV; omega
def centV (f g : Int) : Int := logV g.toNat - logV f.toNat

set_option maxHeartbeats 1000000 in
theorem fineLog_any (o : Int) (n : Nat) (w : World) (h0 : 10000 ≤ n) (h1 : n ≤ 20000000) (ho : o = fineV n) :
    Calls Tryz.prog 134 #[.int .i64 (n : Int)] w fun e w' => e = .returned (.int .i64 o) ∧ w' = w := by
  have hl := log_ok h0 h1
  obtain ⟨e, he⟩ : ∃ e, e = n.log2 := ⟨_, rfl⟩
  unfold fineV at ho
  rw [← he] at hl ho
  obtain ⟨F, hF⟩ : ∃ F, F = fineF 24 ((n * 2 ^ (30 - e) : Nat) : Int) 0 := ⟨_, rfl⟩
  rw [← hF] at ho
  have HO := Lib.hid ho.symm
  have HF := Lib.hid (show fineF (24 - 0) ((n * 2 ^ (30 - e) : Nat) : Int) 0 = F from hF.symm)
  have HX := Lib.hid hl.x
  have he0 := hl.e0; have he1 := hl.e1
  have HB := Lib.hid (show (Lib.bitLen (n : Int).toNat : Int) = (e : Int) + 1 by
    have hb := Lib.bitLen_shift e n hl.low (by omega)
    have hd : n / 2 ^ e = 1 := by
      have h1 := hl.low; have h2 := hl.high
      rw [Nat.pow_succ] at h2
      exact Nat.div_eq_of_lt_le (by omega) (by omega)
    rw [hd, show Lib.bitLen 1 = 1 from rfl] at hb
    rw [Int.toNat_natCast, hb]; omega)
  obtain ⟨X, hX⟩ : ∃ X : Int, X = ((n * 2 ^ (30 - e) : Nat) : Int) := ⟨_, rfl⟩
  rw [← hX] at HF HX
  have wX : wrap64 ((n : Int) * 2 ^ (30 - e)) = X := by
    have e1 : (n : Int) * 2 ^ (30 - e) = X := by rw [hX]; push_cast; rfl
    rw [e1]
    have := HX.out.low; have := HX.out.high
    exact IntWalk.wrap64_in _ (by omega)
  clear ho hF he hl hX
  go_enter Tryz.func134, Tryz.ntmps134
  go_wp2_with fail
  refine (Tryz.bits_Len64 (n : Int) w (by omega) (by omega)).mono ?_
  rintro e' w1 ⟨rfl, rfl⟩
  rw [HB.out]
  have h30 : (e : Int) ≤ 30 := by omega
  have d30 : decide (e ≤ 30) = true := decide_eq_true (by omega)
  go_wp2_with fail
  simp only [wX]
  go_loopw [4, 5, 21] (fun xv rv iv wr => ∃ (k : Nat) (x r : Int), xv = .int .i64 x ∧ rv = .int .i64 r ∧ iv = .int .i64 (k : Int) ∧ k ≤ 24 ∧ XOk x ∧ 0 ≤ r ∧ r < 2 ^ k ∧ fineF (24 - k) x r = F ∧ wr = w1) (fun _ _ iv _ => 24 - (intOf iv).toNat)
  case atStart => exact ⟨0, _, 0, rfl, rfl, by go_num, by omega, HX.out, by omega, by simp, HF.out, rfl⟩
  case round =>
    obtain ⟨k, x, r, rfl, rfl, rfl, hk, hx, hr0, hr1, hF, rfl⟩ := hrel
    have HXX := Lib.hid hx; have HFF := Lib.hid hF
    by_cases hlt : k < 24
    · obtain ⟨hs0, hs1⟩ := sq_x hx.low hx.high
      have hp : (2 : Int) ^ k ≤ 2 ^ 24 := by
        have : 2 ^ k ≤ 2 ^ 24 := Nat.pow_le_pow_right (by omega) (by omega)
        exact_mod_cast this
      have hp2 : (2 : Int) ^ (k + 1) = 2 * 2 ^ k := by rw [Int.pow_succ]; omega
      have HP2 := Lib.hid hp2
      have e24 : 24 - k = (24 - (k + 1)) + 1 := by omega
      obtain ⟨s, hs⟩ : ∃ s, s = x * x := ⟨_, rfl⟩
      rw [← hs] at hs0 hs1
      have w1' : IntKind.i64.wrap (x * x) = s := by rw [← hs]; exact IntWalk.i64_in _ (by omega)
      have w2' : IntKind.i64.wrap (r * 2) = r * 2 := IntWalk.i64_in _ (by simp at hp; omega)
      have w3' : IntKind.i64.wrap (r * 2 + 1) = r * 2 + 1 := IntWalk.i64_in _ (by simp at hp; omega)
      have HS := Lib.hid hs
      by_cases g : 2147483648 ≤ s / 1073741824
      · have HE := Lib.hid (show fineF (24 - (k + 1)) (s / 1073741824 / 2) (r * 2 + 1) = F by
          rw [← hF, e24]
          conv => rhs; unfold fineF
          rw [← hs, if_pos g])
        have HXN := Lib.hid (show XOk (s / 1073741824 / 2) by rw [hs]; exact hx.big (by rw [← hs]; exact g))
        have dg : decide (2147483648 ≤ s / 1073741824) = true := decide_eq_true g
        have HR := Lib.hid hr1
        clear hs hx hF hp2 e24 hr1 hp
        go_wp2
        go_roundw
        case rel => exact ⟨k + 1, s / 1073741824 / 2, r * 2 + 1, rfl, rfl, by go_num, by omega, HXN.out, by omega, by rw [HP2.out]; have := HR.out; omega, HE.out, (by first | rfl | trivial)⟩
        case measure => simp [intOf]; omega
      · have HE := Lib.hid (show fineF (24 - (k + 1)) (s / 1073741824) (r * 2) = F by
          rw [← hF, e24]
          conv => rhs; unfold fineF
          rw [← hs, if_neg g])
        have HXN := Lib.hid (show XOk (s / 1073741824) by rw [hs]; exact hx.small (by rw [← hs]; exact g))
        have dg : decide (2147483648 ≤ s / 1073741824) = false := decide_eq_false g
        have HR := Lib.hid hr1
        clear hs hx hF hp2 e24 hr1 hp
        go_wp2
        go_roundw
        case rel => exact ⟨k + 1, s / 1073741824, r * 2, rfl, rfl, by go_num, by omega, HXN.out, by omega, by rw [HP2.out]; have := HR.out; omega, HE.out, (by first | rfl | trivial)⟩
        case measure => simp [intOf]; omega
    · obtain rfl : k = 24 := by omega
      have HE := Lib.hid (show r = F by rw [← hF]; rfl)
      have HO2 := Lib.hid (show (e : Int) * 16777216 + r = o by rw [HE.out]; exact HO.out)
      have hr24 : r < 16777216 := by simpa using hr1
      have w4' : IntKind.i64.wrap ((e : Int) * 16777216) = (e : Int) * 16777216 := IntWalk.i64_in _ (by omega)
      have w5' : IntKind.i64.wrap ((e : Int) * 16777216 + r) = (e : Int) * 16777216 + r := IntWalk.i64_in _ (by omega)
      clear hF hx
      go_wp2
      go_ret
      exact ⟨by rw [← HO2.out]; rfl, rfl⟩


/-- The number of bits, counted up. -/
theorem up_ok {n e j : Nat} (hl : LogOk n e) : 0 < n / 2 ^ (j + 1) ↔ j < e := by
  rw [Nat.div_pos_iff]
  constructor
  · rintro ⟨_, h⟩
    refine Nat.lt_of_not_le fun g => ?_
    have : 2 ^ (e + 1) ≤ 2 ^ (j + 1) := Nat.pow_le_pow_right (by omega) (by omega)
    have := hl.high; omega
  · intro h
    refine ⟨Nat.pow_pos (by omega), ?_⟩
    have : 2 ^ (j + 1) ≤ 2 ^ e := Nat.pow_le_pow_right (by omega) (by omega)
    have := hl.low; omega
set_option maxHeartbeats 1000000 in
theorem l02Fine_any (o : Int) (n : Nat) (w : World) (h0 : 10000 ≤ n) (h1 : n ≤ 20000000) (ho : o = fineV n) :
    Calls Tryz.prog 112 #[.int .i64 (n : Int)] w fun e w' => e = .returned (.int .i64 o) ∧ w' = w := by
  have hl := log_ok h0 h1
  obtain ⟨e, he⟩ : ∃ e, e = n.log2 := ⟨_, rfl⟩
  unfold fineV at ho
  rw [← he] at hl ho
  obtain ⟨F, hF⟩ : ∃ F, F = fineF 24 ((n * 2 ^ (30 - e) : Nat) : Int) 0 := ⟨_, rfl⟩
  rw [← hF] at ho
  have HO := Lib.hid ho.symm
  have HF := Lib.hid (show fineF (24 - 0) ((n * 2 ^ (30 - e) : Nat) : Int) 0 = F from hF.symm)
  have HX := Lib.hid hl.x
  have he0 := hl.e0; have he1 := hl.e1
  have HUP := Lib.hid (fun j => up_ok (j := j) hl)
  obtain ⟨X, hX⟩ : ∃ X : Int, X = ((n * 2 ^ (30 - e) : Nat) : Int) := ⟨_, rfl⟩
  rw [← hX] at HF HX
  have wX : wrap64 ((n : Int) * 2 ^ (30 - e)) = X := by
    have e1 : (n : Int) * 2 ^ (30 - e) = X := by rw [hX]; push_cast; rfl
    rw [e1]
    have := HX.out.low; have := HX.out.high
    exact IntWalk.wrap64_in _ (by omega)
  clear ho hF he hl hX
  go_enter Tryz.func112, Tryz.ntmps112
  go_wp2_with fail
  go_loopw [3] (fun ev wr => ∃ j : Nat, ev = .int .i64 (j : Int) ∧ j ≤ e ∧ wr = w) (fun ev _ => e - (intOf ev).toNat)
  case atStart => exact ⟨0, by go_num, Nat.zero_le _, rfl⟩
  case round =>
    obtain ⟨j, rfl, hj, rfl⟩ := hrel
    have wj : IntKind.i64.wrap ((j : Int) + 1) = (j : Int) + 1 := IntWalk.i64_in _ (by omega)
    have wu : IntKind.u64.wrap ((j : Int) + 1) = (j : Int) + 1 := by simp [IntKind.wrap, IntKind.bits, IntKind.signed]; omega
    have tj : ((j : Int) + 1).toNat = j + 1 := by omega
    by_cases hlt : j < e
    · have hp := (HUP.out j).2 hlt
      have hpi : (0 : Int) < (n : Int) / 2 ^ (j + 1) := by
        have : ((n / 2 ^ (j + 1) : Nat) : Int) = (n : Int) / 2 ^ (j + 1) := by push_cast; rfl
        omega
      go_wp2_with fail
      exact ⟨⟨j + 1, by go_num, by omega, trivial⟩, by simp [intOf]; omega⟩
    · obtain rfl : j = e := by omega
      have hp : ¬ 0 < n / 2 ^ (j + 1) := fun h => hlt ((HUP.out j).1 h)
      have hpi : ¬ (0 : Int) < (n : Int) / 2 ^ (j + 1) := by
        have : ((n / 2 ^ (j + 1) : Nat) : Int) = (n : Int) / 2 ^ (j + 1) := by push_cast; rfl
        omega
      have h30 : ¬ (30 : Int) < (j : Int) := by omega
      have d30 : decide (30 < j) = false := decide_eq_false (by omega)
      have w30 : IntKind.i64.wrap (30 - (j : Int)) = 30 - (j : Int) := IntWalk.i64_in _ (by omega)
      have u30 : IntKind.u64.wrap (30 - (j : Int)) = 30 - (j : Int) := by simp [IntKind.wrap, IntKind.bits, IntKind.signed]; omega
      have t30 : (30 - (j : Int)).toNat = 30 - j := by omega
      obtain ⟨w2, rfl⟩ : ∃ w2 : World, w2 = wr := ⟨_, rfl⟩
      go_wp2_with fail
      try simp only [wX]
      obtain ⟨e, rfl⟩ : ∃ e, e = j := ⟨_, rfl⟩
      go_loopw [4, 5, 6] (fun xv rv iv wr => ∃ (k : Nat) (x r : Int), xv = .int .i64 x ∧ rv = .int .i64 r ∧ iv = .int .i64 (k : Int) ∧ k ≤ 24 ∧ XOk x ∧ 0 ≤ r ∧ r < 2 ^ k ∧ fineF (24 - k) x r = F ∧ wr = w2) (fun _ _ iv _ => 24 - (intOf iv).toNat)
      case atStart => exact ⟨0, _, 0, rfl, rfl, by go_num, by omega, HX.out, by omega, by simp, HF.out, rfl⟩
      case round =>
        obtain ⟨k, x, r, rfl, rfl, rfl, hk, hx, hr0, hr1, hF, rfl⟩ := hrel
        have HXX := Lib.hid hx; have HFF := Lib.hid hF
        by_cases hlt : k < 24
        · obtain ⟨hs0, hs1⟩ := sq_x hx.low hx.high
          have hp : (2 : Int) ^ k ≤ 2 ^ 24 := by
            have : 2 ^ k ≤ 2 ^ 24 := Nat.pow_le_pow_right (by omega) (by omega)
            exact_mod_cast this
          have hp2 : (2 : Int) ^ (k + 1) = 2 * 2 ^ k := by rw [Int.pow_succ]; omega
          have HP2 := Lib.hid hp2
          have e24 : 24 - k = (24 - (k + 1)) + 1 := by omega
          obtain ⟨s, hs⟩ : ∃ s, s = x * x := ⟨_, rfl⟩
          rw [← hs] at hs0 hs1
          have w1' : IntKind.i64.wrap (x * x) = s := by rw [← hs]; exact IntWalk.i64_in _ (by omega)
          have w2' : IntKind.i64.wrap (r * 2) = r * 2 := IntWalk.i64_in _ (by simp at hp; omega)
          have w3' : IntKind.i64.wrap (r * 2 + 1) = r * 2 + 1 := IntWalk.i64_in _ (by simp at hp; omega)
          have HS := Lib.hid hs
          by_cases g : 2147483648 ≤ s / 1073741824
          · have HE := Lib.hid (show fineF (24 - (k + 1)) (s / 1073741824 / 2) (r * 2 + 1) = F by
              rw [← hF, e24]
              conv => rhs; unfold fineF
              rw [← hs, if_pos g])
            have HXN := Lib.hid (show XOk (s / 1073741824 / 2) by rw [hs]; exact hx.big (by rw [← hs]; exact g))
            have dg : decide (2147483648 ≤ s / 1073741824) = true := decide_eq_true g
            have HR := Lib.hid hr1
            clear hs hx hF hp2 e24 hr1 hp
            go_wp2
            go_roundw
            case rel => exact ⟨k + 1, s / 1073741824 / 2, r * 2 + 1, rfl, rfl, by go_num, by omega, HXN.out, by omega, by rw [HP2.out]; have := HR.out; omega, HE.out, (by first | rfl | trivial)⟩
            case measure => simp [intOf]; omega
          · have HE := Lib.hid (show fineF (24 - (k + 1)) (s / 1073741824) (r * 2) = F by
              rw [← hF, e24]
              conv => rhs; unfold fineF
              rw [← hs, if_neg g])
            have HXN := Lib.hid (show XOk (s / 1073741824) by rw [hs]; exact hx.small (by rw [← hs]; exact g))
            have dg : decide (2147483648 ≤ s / 1073741824) = false := decide_eq_false g
            have HR := Lib.hid hr1
            clear hs hx hF hp2 e24 hr1 hp
            go_wp2
            go_roundw
            case rel => exact ⟨k + 1, s / 1073741824, r * 2, rfl, rfl, by go_num, by omega, HXN.out, by omega, by rw [HP2.out]; have := HR.out; omega, HE.out, (by first | rfl | trivial)⟩
            case measure => simp [intOf]; omega
        · obtain rfl : k = 24 := by omega
          have HE := Lib.hid (show r = F by rw [← hF]; rfl)
          have HO2 := Lib.hid (show (e : Int) * 16777216 + r = o by rw [HE.out]; exact HO.out)
          have hr24 : r < 16777216 := by simpa using hr1
          have w4' : IntKind.i64.wrap ((e : Int) * 16777216) = (e : Int) * 16777216 := IntWalk.i64_in _ (by omega)
          have w5' : IntKind.i64.wrap ((e : Int) * 16777216 + r) = (e : Int) * 16777216 + r := IntWalk.i64_in _ (by omega)
          clear hF hx
          go_wp2
          go_ret
          exact ⟨by rw [← HO2.out]; rfl, rfl⟩

theorem logTenths_any (o : Int) (n : Nat) (w : World) (h0 : 10000 ≤ n) (h1 : n ≤ 20000000) (ho : o = logV n) :
    Calls Tryz.prog 124 #[.int .i64 (n : Int)] w fun e w' => e = .returned (.int .i64 o) ∧ w' = w := by
  have hb := fineV_bd h0 h1
  obtain ⟨f, hf⟩ : ∃ f, f = fineV n := ⟨_, rfl⟩
  unfold logV at ho
  rw [← hf] at ho hb
  have HF := Lib.hid hf; have HO := Lib.hid ho
  have w1' : IntKind.i64.wrap (12000 * f) = 12000 * f := IntWalk.i64_in _ (by omega)
  clear hf ho
  go_enter Tryz.func124, Tryz.ntmps124
  go_wp2_with fail
  refine (fineLog_any f n _ h0 h1 HF.out).mono ?_
  rintro e w1 ⟨rfl, rfl⟩
  go_wp2
  go_ret
  exact ⟨by rw [HO.out]; rfl, rfl⟩
theorem l02Log_any (o : Int) (n : Nat) (w : World) (h0 : 10000 ≤ n) (h1 : n ≤ 20000000) (ho : o = logV n) :
    Calls Tryz.prog 91 #[.int .i64 (n : Int)] w fun e w' => e = .returned (.int .i64 o) ∧ w' = w := by
  have hb := fineV_bd h0 h1
  obtain ⟨f, hf⟩ : ∃ f, f = fineV n := ⟨_, rfl⟩
  unfold logV at ho
  rw [← hf] at ho hb
  have HF := Lib.hid hf; have HO := Lib.hid ho
  have w1' : IntKind.i64.wrap (12000 * f) = 12000 * f := IntWalk.i64_in _ (by omega)
  clear hf ho
  go_enter Tryz.func91, Tryz.ntmps91
  go_wp2_with fail
  refine (l02Fine_any f n _ h0 h1 HF.out).mono ?_
  rintro e w1 ⟨rfl, rfl⟩
  go_wp2
  go_ret
  exact ⟨by rw [HO.out]; rfl, rfl⟩
theorem cents_any (o f g : Int) (w : World) (hf : hzOk f) (hg : hzOk g) (ho : o = centV f g) :
    Calls Tryz.prog 101 #[.int .i64 f, .int .i64 g] w fun e w' => e = .returned (.int .i64 o) ∧ w' = w := by
  obtain ⟨a, rfl⟩ : ∃ a : Nat, f = a := ⟨f.toNat, by have := hf.1; omega⟩
  obtain ⟨b, rfl⟩ : ∃ b : Nat, g = b := ⟨g.toNat, by have := hg.1; omega⟩
  obtain ⟨f0, f1⟩ := hf
  obtain ⟨g0, g1⟩ := hg
  have ba := logV_bd (n := a) (by omega) (by omega)
  have bb := logV_bd (n := b) (by omega) (by omega)
  obtain ⟨la, hla⟩ : ∃ la, la = logV a := ⟨_, rfl⟩
  obtain ⟨lb, hlb⟩ : ∃ lb, lb = logV b := ⟨_, rfl⟩
  unfold centV at ho
  simp only [Int.toNat_natCast] at ho
  rw [← hla] at ba ho
  rw [← hlb] at bb ho
  have HA := Lib.hid hla; have HB := Lib.hid hlb; have HO := Lib.hid ho
  have w1' : IntKind.i64.wrap (lb - la) = lb - la := IntWalk.i64_in _ (by omega)
  clear hla hlb ho
  go_enter Tryz.func101, Tryz.ntmps101
  go_wp2_with fail
  refine (logTenths_any lb b _ (by omega) (by omega) HB.out).mono ?_
  rintro e w1 ⟨rfl, rfl⟩
  go_wp2_with fail
  refine (logTenths_any la a _ (by omega) (by omega) HA.out).mono ?_
  rintro e w1 ⟨rfl, rfl⟩
  go_wp2
  go_ret
  exact ⟨by rw [HO.out]; rfl, rfl⟩
theorem l02Between_any (o f g : Int) (w : World) (hf : hzOk f) (hg : hzOk g) (ho : o = centV f g) :
    Calls Tryz.prog 67 #[.int .i64 f, .int .i64 g] w fun e w' => e = .returned (.int .i64 o) ∧ w' = w := by
  obtain ⟨a, rfl⟩ : ∃ a : Nat, f = a := ⟨f.toNat, by have := hf.1; omega⟩
  obtain ⟨b, rfl⟩ : ∃ b : Nat, g = b := ⟨g.toNat, by have := hg.1; omega⟩
  obtain ⟨f0, f1⟩ := hf
  obtain ⟨g0, g1⟩ := hg
  have ba := logV_bd (n := a) (by omega) (by omega)
  have bb := logV_bd (n := b) (by omega) (by omega)
  obtain ⟨la, hla⟩ : ∃ la, la = logV a := ⟨_, rfl⟩
  obtain ⟨lb, hlb⟩ : ∃ lb, lb = logV b := ⟨_, rfl⟩
  unfold centV at ho
  simp only [Int.toNat_natCast] at ho
  rw [← hla] at ba ho
  rw [← hlb] at bb ho
  have HA := Lib.hid hla; have HB := Lib.hid hlb; have HO := Lib.hid ho
  have w1' : IntKind.i64.wrap (lb - la) = lb - la := IntWalk.i64_in _ (by omega)
  clear hla hlb ho
  go_enter Tryz.func67, Tryz.ntmps67
  go_wp2_with fail
  refine (l02Log_any lb b _ (by omega) (by omega) HB.out).mono ?_
  rintro e w1 ⟨rfl, rfl⟩
  go_wp2_with fail
  refine (l02Log_any la a _ (by omega) (by omega) HA.out).mono ?_
  rintro e w1 ⟨rfl, rfl⟩
  go_wp2
  go_ret
  exact ⟨by rw [HO.out]; rfl, rfl⟩

end Go.Proofs.YtenedpboehkmjaaGreat
/- A written list, and one of it drawn; rows that a store does not reach. -/
set_option linter.unusedSimpArgs false
set_option linter.unnecessarySimpa false
set_option linter.unusedVariables false
set_option maxRecDepth 100000
namespace Go.Proofs.YtenedpboehkmjaaGreat
open Go.RowKit

theorem owns_ne {w : World} {base : Nat} {e : TypeId} {size n : Nat} {v : Value} {cs : List Value} (h : w.ownsRow base e size v n cs) {b o : Nat} (hb : ∀ q, v.ownBlock = some q → q ≠ b) (u : Value) : (w.setCell ⟨b, o, none⟩ u).ownsRow base e size v n cs := by
  refine ⟨h.1, ?_⟩
  rcases h.2 with h2 | ⟨g, cap, cur, rfl, x1, x2, x3⟩
  · exact .inl h2
  · have hg : g ≠ b := hb g rfl
    exact .inr ⟨g, cap, cur, rfl, x1, (Below.heap_setCell _ _ _ _ (by simpa using hg)).trans x2, x3⟩

end Go.Proofs.YtenedpboehkmjaaGreat
/- Sounds and goals of both packages. -/
set_option linter.unusedSimpArgs false
set_option linter.unnecessarySimpa false
set_option linter.unusedVariables false
set_option maxRecDepth 100000
namespace Go.Proofs.YtenedpboehkmjaaGreat
open Go.RowKit

instance (f : Int) : Decidable (hzOk f) := by unfold hzOk; infer_instance
/-- Five partials. -/
structure SndD where
  a : Int
  b : Int
  c : Int
  d : Int
  e : Int
def SndD.list (s : SndD) : List Int := [s.a, s.b, s.c, s.d, s.e]
def SndD.cells (s : SndD) : List Value := [.int .i64 s.a, .int .i64 s.b, .int .i64 s.c, .int .i64 s.d, .int .i64 s.e]
def sndOk (s : SndD) : Prop := Rises 10000 20000000 s.list
instance (s : SndD) : Decidable (sndOk s) := by unfold sndOk; infer_instance
theorem snd_iff (s : SndD) : sndOk s ↔ (∀ x ∈ s.list, hzOk x) ∧ s.a < s.b ∧ s.b < s.c ∧ s.c < s.d ∧ s.d < s.e := by
  constructor
  · intro h
    have h0 := h 0 (by simp [SndD.list])
    have h1 := h 1 (by simp [SndD.list])
    have h2 := h 2 (by simp [SndD.list])
    have h3 := h 3 (by simp [SndD.list])
    have h4 := h 4 (by simp [SndD.list])
    simp [RiseAt, SndD.list] at h0 h1 h2 h3 h4
    refine ⟨fun x hx => ?_, by omega, by omega, by omega, by omega⟩
    simp only [SndD.list, List.mem_cons, List.not_mem_nil, or_false] at hx
    unfold hzOk; omega
  · rintro ⟨h, h1, h2, h3, h4⟩ k hk
    simp only [SndD.list, List.mem_cons, List.not_mem_nil, or_false, forall_eq_or_imp, forall_eq] at h
    obtain ⟨q0, q1, q2, q3, q4⟩ := h
    unfold hzOk at q0 q1 q2 q3 q4
    simp [SndD.list] at hk
    have : k = 0 ∨ k = 1 ∨ k = 2 ∨ k = 3 ∨ k = 4 := by omega
    rcases this with rfl | rfl | rfl | rfl | rfl <;> simp [RiseAt, SndD.list] <;> omega
structure GoalD where
  t : SndD
  tol : Int
  most : Int
def GoalD.cells (g : GoalD) : List Value := g.t.cells ++ [.int .i64 g.tol, .int .i64 g.most]
def goalOk (g : GoalD) : Prop := sndOk g.t ∧ (0 ≤ g.tol ∧ g.tol ≤ 20000) ∧ (0 ≤ g.most ∧ g.most ≤ 20)
/-- A sound lies in block q from cell o on. -/
structure SndIn (w : World) (q o : Nat) (s : SndD) : Prop where
  lt : q < w.heap.size
  c0 : w.cell? ⟨q, o, none⟩ = some (.int .i64 s.a)
  c1 : w.cell? ⟨q, o + 1, none⟩ = some (.int .i64 s.b)
  c2 : w.cell? ⟨q, o + 2, none⟩ = some (.int .i64 s.c)
  c3 : w.cell? ⟨q, o + 3, none⟩ = some (.int .i64 s.d)
  c4 : w.cell? ⟨q, o + 4, none⟩ = some (.int .i64 s.e)
theorem SndIn.mono {w w' : World} {q o : Nat} {s : SndD} (h : SndIn w q o s) (hb : Below w.heap.size w w') : SndIn w' q o s :=
  ⟨Nat.lt_of_lt_of_le h.lt hb.size, cellB hb h.c0, cellB hb h.c1, cellB hb h.c2, cellB hb h.c3, cellB hb h.c4⟩

theorem owns_lit5 (w : World) (cs : List Value) (e : TypeId) (n base : Nat) (hn : cs.length = n) (h : base ≤ w.heap.size) (hm : n ≤ maxLen) : (w.alloc (.cells cs.toArray e)).ownsRow base e 1 (.slice (some ⟨w.heap.size, 0, none⟩) n n) n cs := by
  subst hn
  exact ⟨by simp, .inr ⟨w.heap.size, cs.length, cs.toArray, rfl, h, heap_alloc_new w _, Nat.le_refl _, hm, by simp, by simp⟩⟩
set_option maxHeartbeats 1000000 in
theorem listOf_any (s : SndD) (w : World) :
    Calls Tryz.prog 100 #[.agg #[.int .i64 s.a, .int .i64 s.b, .int .i64 s.c, .int .i64 s.d, .int .i64 s.e]] w fun e w' => ∃ v, e = .returned v ∧ OwnInts w.heap.size w'.heap.size w' v s.list ∧ Below w.heap.size w w' := by
  go_enter Tryz.func100, Tryz.ntmps100
  go_wp2
  go_ret
  have hbA := belowA w (Obj.cells #[.int .i64 s.a, .int .i64 s.b, .int .i64 s.c, .int .i64 s.d, .int .i64 s.e] 44)
  refine ⟨_, rfl, ?_, hbA.trans ((belowA _ _).mono hbA.size)⟩
  have ho := owns_lit5 (w.alloc (Obj.cells #[.int .i64 s.a, .int .i64 s.b, .int .i64 s.c, .int .i64 s.d, .int .i64 s.e] 44)) [.int .i64 s.a, .int .i64 s.b, .int .i64 s.c, .int .i64 s.d, .int .i64 s.e] 2 5 w.heap.size rfl hbA.size (by simp [maxLen])
  exact OwnInts.mk' (by simpa [SndD.list] using ho)
set_option maxHeartbeats 1000000 in
theorem l04List_any (q o : Nat) (s : SndD) (w : World) (h : SndIn w q o s) :
    Calls Tryz.prog 68 #[.pointer (some ⟨q, o, none⟩)] w fun e w' => ∃ v, e = .returned v ∧ OwnInts w.heap.size w'.heap.size w' v s.list ∧ Below w.heap.size w w' := by
  obtain ⟨l0, c0, c1, c2, c3, c4⟩ := h
  have n0 : ∀ y, (ext w.drew none y).cell? ⟨q, o, none⟩ = some (.int .i64 s.a) := fun y => (cell?_ext (w := w.drew) (by simpa using l0) (by simp)).trans c0
  have n1 : ∀ y, (ext w.drew none y).cell? ⟨q, o + 1, none⟩ = some (.int .i64 s.b) := fun y => (cell?_ext (w := w.drew) (by simpa using l0) (by simp)).trans c1
  have n2 : ∀ y, (ext w.drew none y).cell? ⟨q, o + 2, none⟩ = some (.int .i64 s.c) := fun y => (cell?_ext (w := w.drew) (by simpa using l0) (by simp)).trans c2
  have n3 : ∀ y, (ext w.drew none y).cell? ⟨q, o + 3, none⟩ = some (.int .i64 s.d) := fun y => (cell?_ext (w := w.drew) (by simpa using l0) (by simp)).trans c3
  have n4 : ∀ y, (ext w.drew none y).cell? ⟨q, o + 4, none⟩ = some (.int .i64 s.e) := fun y => (cell?_ext (w := w.drew) (by simpa using l0) (by simp)).trans c4
  go_enter Tryz.func68, Tryz.ntmps68
  go_wp2_with fail
  refine wp_region_ord [(0, true), (1, true), (2, true), (3, true), (4, true), (5, true), (6, true), (7, true), (8, true), (9, true), (10, true), (11, true), (12, true), (13, true), (14, true), (15, true), (16, true), (17, true), (18, true), (19, true), (20, false), (21, true)] (none) (by kernel_rfl) (by kernel_rfl) ?_
  (repeat (with_reducible refine wpOrd_soft (fun K hK => ?_); simp only [List.getElem?_toArray, List.getElem?_cons_zero, List.getElem?_cons_succ]; first | (go_simp; refine hK _ ?_) | (simp only [undef]; go_simp; refine hK _ ?_); clear hK K))
  (with_reducible refine wpOrd_hard ?_; simp only [List.getElem?_toArray, List.getElem?_cons_zero, List.getElem?_cons_succ])
  go_wp2_with fail
  have hbB : Below w.heap.size w (w.alloc (.cells #[.int .i64 s.a, .int .i64 s.b, .int .i64 s.c, .int .i64 s.d, .int .i64 s.e] 2)).drew := by (repeat (first | with_reducible exact Below.refl _ _ | with_reducible exact hbw | (with_reducible refine Below.setCell ?_ ?_ _; rotate_left; · first | exact Nat.le_refl _ | omega | (simp; done) | (simp; omega)) | (with_reducible refine Below.alloc ?_ ?_ _; rotate_left; · first | exact Nat.le_refl _ | omega | (simp; done) | (simp; omega)) | with_reducible refine below_drewN ?_ _ | with_reducible refine Below.drew ?_))
  refine And.intro (grown_of_below hbB) ?_
  (repeat (with_reducible refine wpOrd_soft (fun K hK => ?_); simp only [List.getElem?_toArray, List.getElem?_cons_zero, List.getElem?_cons_succ]; first | (go_simp; refine hK _ ?_) | (simp only [undef]; go_simp; refine hK _ ?_); clear hK K))
  (with_reducible refine wpOrd_nil ?_); refine NoPanic.normal ?_
  go_wp2
  go_ret
  refine ⟨_, rfl, ?_, hbB⟩
  have ho := owns_lit5 w [.int .i64 s.a, .int .i64 s.b, .int .i64 s.c, .int .i64 s.d, .int .i64 s.e] 2 5 w.heap.size rfl (Nat.le_refl _) (by simp [maxLen])
  exact OwnInts.mk' ho

theorem l04Ok_any (r : Bool) (q o : Nat) (s : SndD) (w : World) (h : SndIn w q o s) (hr : r = decide (sndOk s)) :
    Calls Tryz.prog 79 #[.pointer (some ⟨q, o, none⟩)] w fun e w' => e = .returned (.bool r) ∧ Below w.heap.size w w' := by
  have HR := Lib.hid hr
  have H := Lib.hid h
  clear hr h
  go_enter Tryz.func79, Tryz.ntmps79
  go_wp2_with fail
  refine (l04List_any q o s _ H.out).mono ?_
  rintro e w1 ⟨v, rfl, ho, hb1⟩
  obtain ⟨a, c, rfl⟩ := ho.form
  go_wp2_with fail
  refine (l00Rises_any _ 10000 20000000 s.list _ ho.rd).mono ?_
  rintro e w2 ⟨rfl, hq⟩
  obtain ⟨b, hb⟩ : ∃ b, b = decide (Rises 10000 20000000 s.list) := ⟨_, rfl⟩
  rw [← hb]
  have HB := Lib.hid (show b = r by rw [hb, HR.out]; rfl)
  clear hb
  go_wp2
  go_ret
  exact ⟨by rw [← HB.out]; rfl, hb1.trans ((hq.below _).mono hb1.size)⟩

theorem isFrequency_any (r : Bool) (n : Int) (w : World) (h : r = decide (hzOk n)) : Calls Tryz.prog 130 #[.int .i64 n] w fun e w' => e = .returned (.bool r) ∧ w' = w := by
  have H := Lib.hid (show r = decide (10000 ≤ n ∧ n ≤ 20000000) from h); clear h
  go_enter Tryz.func130, Tryz.ntmps130
  go_wp2_with fail
  refine (within_any r n _ _ _ H.out).mono ?_
  rintro e w1 ⟨rfl, rfl⟩
  go_wp2
  go_ret
  exact ⟨rfl, rfl⟩
set_option maxHeartbeats 1000000 in
theorem areFrequencies_any (r : Bool) (v : Value) (xs : List Int) (w : World) (h : Ints w v xs) (hr : r = true ↔ ∀ x ∈ xs, hzOk x) :
    Calls Tryz.prog 113 #[v] w fun e w' => e = .returned (.bool r) ∧ w' = w := by
  obtain ⟨a, ca, rfl, h1, h2, _⟩ := id h
  have hm : xs.length ≤ maxLen := by omega
  unfold maxLen at hm
  have HR := Lib.hid hr
  clear h1 h2 hr
  go_enter Tryz.func113, Tryz.ntmps113
  go_wp2_with fail
  go_loopw [7] (fun iv wr => ∃ i : Nat, iv = .int .i64 i ∧ i ≤ xs.length ∧ (∀ k (hk : k < xs.length), k < i → hzOk xs[k]) ∧ wr = w) (fun iv _ => xs.length - (intOf iv).toNat)
  case atStart => exact ⟨0, by go_num, Nat.zero_le _, fun k _ h => absurd h (by omega), rfl⟩
  case round =>
    obtain ⟨i, rfl, hi, hall, rfl⟩ := hrel
    have HA := Lib.hid hall; clear hall
    by_cases hlt : i < xs.length
    · obtain ⟨b1, o1, rfl, cp⟩ := h.cells (by simp; omega)
      have p0 : wr.cell? ⟨b1, o1 + i, none⟩ = some (.int .i64 xs[i]) := cp i _ (by simp [hlt])
      clear cp
      by_cases g : hzOk xs[i]
      · have G := Lib.hid g; clear g
        go_wp2_with fail
        refine (isFrequency_any true _ _ (yesB G.out)).mono ?_
        rintro e w1 ⟨rfl, rfl⟩
        go_wp2
        go_roundw
        case rel => exact ⟨i + 1, by go_num, by omega, (fun k hk hki => by
          by_cases e : k = i
          · subst e; exact G.out
          · exact HA.out k hk (by omega)), (by first | rfl | trivial)⟩
        case measure => simp [intOf]; omega
      · have H := Lib.hid (show r = false by
          cases hr : r
          · rfl
          · exact absurd (HR.out.1 hr _ (List.getElem_mem hlt)) g)
        have G := Lib.hid g; clear g
        go_wp2_with fail
        refine (isFrequency_any false _ _ (noB G.out)).mono ?_
        rintro e w1 ⟨rfl, rfl⟩
        go_wp2
        go_ret
        exact ⟨by rw [H.out]; rfl, (by first | rfl | trivial)⟩
    · obtain rfl : i = xs.length := by omega
      have H := Lib.hid (show r = true from HR.out.2 fun x hx => by
        obtain ⟨k, hk, rfl⟩ := List.getElem_of_mem hx
        exact HA.out k hk hk)
      go_wp2
      go_ret
      exact ⟨by rw [H.out]; rfl, (by first | rfl | trivial)⟩

set_option maxHeartbeats 2000000 in
theorem ValidSound_any (r : Bool) (s : SndD) (w : World) (hr : r = decide (sndOk s)) :
    Calls Tryz.prog 92 #[.agg #[.int .i64 s.a, .int .i64 s.b, .int .i64 s.c, .int .i64 s.d, .int .i64 s.e]] w fun e w' => e = .returned (.bool r) ∧ Below w.heap.size w w' := by
  by_cases g0 : ∀ x ∈ s.list, hzOk x
  · have G0 := Lib.hid (show true = true ↔ ∀ x ∈ s.list, hzOk x from ⟨fun _ => g0, fun _ => rfl⟩)
    have no : ¬ (s.a < s.b ∧ s.b < s.c ∧ s.c < s.d ∧ s.d < s.e) → r = false := fun h => by rw [hr]; exact decide_eq_false fun g => h ((snd_iff s).1 g).2
    by_cases g1 : s.a < s.b
    · by_cases g2 : s.b < s.c
      · by_cases g3 : s.c < s.d
        · by_cases g4 : s.d < s.e
          · have HR := Lib.hid (show r = true by rw [hr]; exact decide_eq_true ((snd_iff s).2 ⟨g0, g1, g2, g3, g4⟩))
            have D4 := Lib.hid (decide_eq_true g4)
            clear hr no g0
            go_enter Tryz.func92, Tryz.ntmps92
            go_wp2_with fail
            have B0 := Box.alloc w [.int .i64 s.a, .int .i64 s.b, .int .i64 s.c, .int .i64 s.d, .int .i64 s.e] 44 w.heap.size rfl
            have hbA := belowA w (Obj.cells #[.int .i64 s.a, .int .i64 s.b, .int .i64 s.c, .int .i64 s.d, .int .i64 s.e] 44)
            refine (listOf_any s _).mono ?_
            rintro e w1 ⟨v, rfl, ho, hb1⟩
            obtain ⟨a, c, rfl⟩ := ho.form
            have hbw := hbA.trans (hb1.mono hbA.size)
            have B1 := B0.mono hb1
            go_wp2_with fail
            refine (areFrequencies_any true _ s.list _ ho.rd (by simpa using G0.out)).mono ?_
            rintro e w2 ⟨rfl, rfl⟩
            have c0 := B1.at' 0 _ rfl
            have c1 := B1.at' 1 _ rfl
            have c2 := B1.at' 2 _ rfl
            have c3 := B1.at' 3 _ rfl
            have c4 := B1.at' 4 _ rfl
            have l0 := B1.lt
            clear B0 B1 ho hbA hb1
            go_wp2
            go_ret
            exact ⟨by rw [HR.out]; first | rfl | exact congrArg (fun b => Ending.returned (Value.bool b)) D4.out, hbw⟩
          · have HR := Lib.hid (no (by omega))
            have D4 := Lib.hid (decide_eq_false g4)
            clear hr no g0
            go_enter Tryz.func92, Tryz.ntmps92
            go_wp2_with fail
            have B0 := Box.alloc w [.int .i64 s.a, .int .i64 s.b, .int .i64 s.c, .int .i64 s.d, .int .i64 s.e] 44 w.heap.size rfl
            have hbA := belowA w (Obj.cells #[.int .i64 s.a, .int .i64 s.b, .int .i64 s.c, .int .i64 s.d, .int .i64 s.e] 44)
            refine (listOf_any s _).mono ?_
            rintro e w1 ⟨v, rfl, ho, hb1⟩
            obtain ⟨a, c, rfl⟩ := ho.form
            have hbw := hbA.trans (hb1.mono hbA.size)
            have B1 := B0.mono hb1
            go_wp2_with fail
            refine (areFrequencies_any true _ s.list _ ho.rd (by simpa using G0.out)).mono ?_
            rintro e w2 ⟨rfl, rfl⟩
            have c0 := B1.at' 0 _ rfl
            have c1 := B1.at' 1 _ rfl
            have c2 := B1.at' 2 _ rfl
            have c3 := B1.at' 3 _ rfl
            have c4 := B1.at' 4 _ rfl
            have l0 := B1.lt
            clear B0 B1 ho hbA hb1
            go_wp2
            go_ret
            exact ⟨by rw [HR.out]; first | rfl | exact congrArg (fun b => Ending.returned (Value.bool b)) D4.out, hbw⟩
        · have HR := Lib.hid (no (by omega))
          clear hr no g0
          go_enter Tryz.func92, Tryz.ntmps92
          go_wp2_with fail
          have B0 := Box.alloc w [.int .i64 s.a, .int .i64 s.b, .int .i64 s.c, .int .i64 s.d, .int .i64 s.e] 44 w.heap.size rfl
          have hbA := belowA w (Obj.cells #[.int .i64 s.a, .int .i64 s.b, .int .i64 s.c, .int .i64 s.d, .int .i64 s.e] 44)
          refine (listOf_any s _).mono ?_
          rintro e w1 ⟨v, rfl, ho, hb1⟩
          obtain ⟨a, c, rfl⟩ := ho.form
          have hbw := hbA.trans (hb1.mono hbA.size)
          have B1 := B0.mono hb1
          go_wp2_with fail
          refine (areFrequencies_any true _ s.list _ ho.rd (by simpa using G0.out)).mono ?_
          rintro e w2 ⟨rfl, rfl⟩
          have c0 := B1.at' 0 _ rfl
          have c1 := B1.at' 1 _ rfl
          have c2 := B1.at' 2 _ rfl
          have c3 := B1.at' 3 _ rfl
          have c4 := B1.at' 4 _ rfl
          have l0 := B1.lt
          clear B0 B1 ho hbA hb1
          go_wp2
          go_ret
          exact ⟨by rw [HR.out]; first | rfl | exact congrArg (fun b => Ending.returned (Value.bool b)) D4.out, hbw⟩
      · have HR := Lib.hid (no (by omega))
        clear hr no g0
        go_enter Tryz.func92, Tryz.ntmps92
        go_wp2_with fail
        have B0 := Box.alloc w [.int .i64 s.a, .int .i64 s.b, .int .i64 s.c, .int .i64 s.d, .int .i64 s.e] 44 w.heap.size rfl
        have hbA := belowA w (Obj.cells #[.int .i64 s.a, .int .i64 s.b, .int .i64 s.c, .int .i64 s.d, .int .i64 s.e] 44)
        refine (listOf_any s _).mono ?_
        rintro e w1 ⟨v, rfl, ho, hb1⟩
        obtain ⟨a, c, rfl⟩ := ho.form
        have hbw := hbA.trans (hb1.mono hbA.size)
        have B1 := B0.mono hb1
        go_wp2_with fail
        refine (areFrequencies_any true _ s.list _ ho.rd (by simpa using G0.out)).mono ?_
        rintro e w2 ⟨rfl, rfl⟩
        have c0 := B1.at' 0 _ rfl
        have c1 := B1.at' 1 _ rfl
        have c2 := B1.at' 2 _ rfl
        have c3 := B1.at' 3 _ rfl
        have c4 := B1.at' 4 _ rfl
        have l0 := B1.lt
        clear B0 B1 ho hbA hb1
        go_wp2
        go_ret
        exact ⟨by rw [HR.out]; first | rfl | exact congrArg (fun b => Ending.returned (Value.bool b)) D4.out, hbw⟩
    · have HR := Lib.hid (no (by omega))
      clear hr no g0
      go_enter Tryz.func92, Tryz.ntmps92
      go_wp2_with fail
      have B0 := Box.alloc w [.int .i64 s.a, .int .i64 s.b, .int .i64 s.c, .int .i64 s.d, .int .i64 s.e] 44 w.heap.size rfl
      have hbA := belowA w (Obj.cells #[.int .i64 s.a, .int .i64 s.b, .int .i64 s.c, .int .i64 s.d, .int .i64 s.e] 44)
      refine (listOf_any s _).mono ?_
      rintro e w1 ⟨v, rfl, ho, hb1⟩
      obtain ⟨a, c, rfl⟩ := ho.form
      have hbw := hbA.trans (hb1.mono hbA.size)
      have B1 := B0.mono hb1
      go_wp2_with fail
      refine (areFrequencies_any true _ s.list _ ho.rd (by simpa using G0.out)).mono ?_
      rintro e w2 ⟨rfl, rfl⟩
      have c0 := B1.at' 0 _ rfl
      have c1 := B1.at' 1 _ rfl
      have c2 := B1.at' 2 _ rfl
      have c3 := B1.at' 3 _ rfl
      have c4 := B1.at' 4 _ rfl
      have l0 := B1.lt
      clear B0 B1 ho hbA hb1
      go_wp2
      go_ret
      exact ⟨by rw [HR.out]; first | rfl | exact congrArg (fun b => Ending.returned (Value.bool b)) D4.out, hbw⟩
  · have G0 := Lib.hid (show false = true ↔ ∀ x ∈ s.list, hzOk x from ⟨(fun h => by cases h), fun h => absurd h g0⟩)
    have HR := Lib.hid (show r = false by rw [hr]; exact decide_eq_false fun g => g0 ((snd_iff s).1 g).1)
    clear hr g0
    go_enter Tryz.func92, Tryz.ntmps92
    go_wp2_with fail
    have B0 := Box.alloc w [.int .i64 s.a, .int .i64 s.b, .int .i64 s.c, .int .i64 s.d, .int .i64 s.e] 44 w.heap.size rfl
    have hbA := belowA w (Obj.cells #[.int .i64 s.a, .int .i64 s.b, .int .i64 s.c, .int .i64 s.d, .int .i64 s.e] 44)
    refine (listOf_any s _).mono ?_
    rintro e w1 ⟨v, rfl, ho, hb1⟩
    obtain ⟨a, c, rfl⟩ := ho.form
    have hbw := hbA.trans (hb1.mono hbA.size)
    have B1 := B0.mono hb1
    go_wp2_with fail
    refine (areFrequencies_any false _ s.list _ ho.rd (by simpa using G0.out)).mono ?_
    rintro e w2 ⟨rfl, rfl⟩
    have c0 := B1.at' 0 _ rfl
    have c1 := B1.at' 1 _ rfl
    have c2 := B1.at' 2 _ rfl
    have c3 := B1.at' 3 _ rfl
    have c4 := B1.at' 4 _ rfl
    have l0 := B1.lt
    clear B0 B1 ho hbA hb1
    go_wp2
    go_ret
    exact ⟨by rw [HR.out]; first | rfl | exact congrArg (fun b => Ending.returned (Value.bool b)) D4.out, hbw⟩

end Go.Proofs.YtenedpboehkmjaaGreat
