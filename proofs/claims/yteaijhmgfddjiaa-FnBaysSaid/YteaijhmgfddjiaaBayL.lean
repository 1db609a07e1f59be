/- Cooling, bays and castings, plain. No program in sight. -/
import Derived.Test.YteaijhmgfddjiaaMem
import Derived.Test.YteaijhmgfddjiaaPutL
import Derived.Test.YteaijhmgfddjiaaNear
set_option linter.unusedSimpArgs false
set_option linter.unnecessarySimpa false
set_option linter.unusedVariables false
set_option maxRecDepth 100000
namespace Go.Proofs.Yteaijhmgfddjiaa
open Go.RowKit

structure BayD where
  id : ByteArray
  radius : Int
  depth : Int
  deriving DecidableEq
structure CasD where
  bell : ByteArray
  radius : Int
  depth : Int
  thick : Int
  since : Int
  deriving DecidableEq

/-- The half time of a thickness. -/
def halfN (k : Nat) : Nat := 30 + k * k / 200000
theorem halfN_bd {k : Nat} (h : k ≤ 30000) : 30 ≤ halfN k ∧ halfN k ≤ 4530 := by
  unfold halfN
  have : k * k ≤ 30000 * 30000 := Nat.mul_le_mul h h
  omega
/-- The temperature after k half times. -/
def afterN (k : Nat) : Nat := 20 + 1130 / 2 ^ k
theorem afterN_bd (k : Nat) : 20 ≤ afterN k ∧ afterN k ≤ 1150 := by
  unfold afterN
  have : 1130 / 2 ^ k ≤ 1130 := Nat.div_le_self _ _
  generalize 1130 / 2 ^ k = a at *
  omega
theorem afterN_le (k : Nat) : afterN (k + 1) ≤ afterN k := by
  unfold afterN
  have h1 : 2 ^ k ≤ 2 ^ (k + 1) := Nat.pow_le_pow_right (by omega) (by omega)
  have h2 : 0 < 2 ^ k := Nat.pow_pos (by omega)
  have := Nat.div_le_div_left (a := 1130) h1 h2
  generalize 1130 / 2 ^ k = a at *
  generalize 1130 / 2 ^ (k + 1) = b at *
  omega
/-- The temperature of thickness k after t minutes. -/
def tempN (k t : Nat) : Int := (afterN (t / halfN k) : Int) + near (((afterN (t / halfN k + 1) : Int) - afterN (t / halfN k)) * (t % halfN k : Nat)) (halfN k)
theorem near_bd {a b : Int} (h1 : -6000000 ≤ a) (h2 : a ≤ 6000000) (h3 : 1 ≤ b) (h4 : b ≤ 4530) : -12004530 ≤ near a b ∧ near a b ≤ 12004530 := by
  unfold near
  split
  · have q0 := Int.ediv_nonneg (show 0 ≤ b - 2 * a by omega) (show 0 ≤ 2 * b by omega)
    have q1 := Int.ediv_le_self (2 * b) (show 0 ≤ b - 2 * a by omega)
    omega
  · have q0 := Int.ediv_nonneg (show 0 ≤ 2 * a + b by omega) (show 0 ≤ 2 * b by omega)
    have q1 := Int.ediv_le_self (2 * b) (show 0 ≤ 2 * a + b by omega)
    omega
theorem line_bd {a b r : Nat} (ha : a ≤ 1150) (hb : b ≤ 1150) (hr : r ≤ 4530) : -6000000 ≤ ((b : Int) - a) * r ∧ ((b : Int) - a) * r ≤ 6000000 := by
  have h1 : a * r ≤ 1150 * 4530 := Nat.mul_le_mul ha hr
  have h2 : b * r ≤ 1150 * 4530 := Nat.mul_le_mul hb hr
  rw [Int.sub_mul, ← Int.natCast_mul, ← Int.natCast_mul]
  omega
/-- The first time that is cold enough, between two. -/
def toF (k : Nat) (goal : Int) : Nat → Nat → Nat → Nat
  | 0, low, _ => low
  | f + 1, low, high => if low < high then (if tempN k ((low + high) / 2) ≤ goal then toF k goal f low ((low + high) / 2) else toF k goal f ((low + high) / 2 + 1) high) else low
theorem toF_stop {k : Nat} {goal : Int} {f low high : Nat} (h : ¬ low < high) : toF k goal f low high = low := by
  cases f <;> simp [toF, h]
theorem toF_cold {k : Nat} {goal : Int} {f low high : Nat} (h : low < high) (g : tempN k ((low + high) / 2) ≤ goal) : toF k goal (f + 1) low high = toF k goal f low ((low + high) / 2) := by simp [toF, h, g]
theorem toF_warm {k : Nat} {goal : Int} {f low high : Nat} (h : low < high) (g : ¬ tempN k ((low + high) / 2) ≤ goal) : toF k goal (f + 1) low high = toF k goal f ((low + high) / 2 + 1) high := by simp [toF, h, g]
theorem toF_bd {k : Nat} {goal : Int} : ∀ (f low high : Nat), low ≤ high → low ≤ toF k goal f low high ∧ toF k goal f low high ≤ high
  | 0, low, high, h => ⟨Nat.le_refl _, h⟩
  | f + 1, low, high, h => by
    by_cases g : low < high
    · by_cases g2 : tempN k ((low + high) / 2) ≤ goal
      · rw [toF_cold g g2]
        have := toF_bd (k := k) (goal := goal) f low ((low + high) / 2) (by omega)
        omega
      · rw [toF_warm g g2]
        have := toF_bd (k := k) (goal := goal) f ((low + high) / 2 + 1) high (by omega)
        omega
    · rw [toF_stop g]; omega
def toN (k : Nat) (goal : Int) : Nat := toF k goal (12 * halfN k) 0 (12 * halfN k)
theorem toN_bd {k : Nat} (h : k ≤ 30000) (goal : Int) : toN k goal ≤ 54360 := by
  have h1 := halfN_bd h
  have h2 := (toF_bd (k := k) (goal := goal) (12 * halfN k) 0 (12 * halfN k) (Nat.zero_le _)).2
  unfold toN; omega

/-- When a casting can be taken out. -/
def stripV (c : CasD) : Int := c.since + toN c.thick.toNat 150
def fitV (b : BayD) (c : CasD) : Prop := c.radius ≤ b.radius ∧ c.depth ≤ b.depth
instance (b : BayD) (c : CasD) : Decidable (fitV b c) := by unfold fitV; infer_instance
def overV (a b : CasD) : Prop := a.since < stripV b ∧ b.since < stripV a
instance (a b : CasD) : Decidable (overV a b) := by unfold overV; infer_instance

end Go.Proofs.Yteaijhmgfddjiaa
