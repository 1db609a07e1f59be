/- Places in a chamber, plain: clearances, the least one, clashes, moves. No program in sight. -/
import Derived.Test.YteaijhmgfddjiaaDoorMem
import Derived.Test.YteaijhmgfddjiaaDoorName
set_option linter.unusedSimpArgs false
set_option linter.unnecessarySimpa false
set_option linter.unusedVariables false
set_option maxRecDepth 100000
namespace Go.Proofs.YteaijhmgfddjiaaDoor
open Go.RowKit

structure PlcD where
  bell : ByteArray
  x : Int
  y : Int
  z : Int
  reach : Int
  deriving DecidableEq
def zPlc : PlcD := ⟨⟨#[]⟩, 0, 0, 0, 0⟩
def plcOk (p : PlcD) : Prop := NameOk p.bell ∧ (0 ≤ p.x ∧ p.x ≤ 20000) ∧ (0 ≤ p.y ∧ p.y ≤ 20000) ∧ (0 ≤ p.z ∧ p.z ≤ 20000) ∧ (1 ≤ p.reach ∧ p.reach ≤ 5000)
def PlcAt (xs : List PlcD) (k : Nat) : Prop := ∀ h : k < xs.length, plcOk xs[k] ∧ (0 < k → Go.Op.bytesLess (xs[k - 1]'(by omega)).bell.toList xs[k].bell.toList = true)
structure PlcsOk (xs : List PlcD) : Prop where
  all : ∀ k, k < xs.length → PlcAt xs k
  len : xs.length ≤ 24
theorem PlcsOk.ok {xs : List PlcD} (h : PlcsOk xs) {k : Nat} (hk : k < xs.length) : plcOk xs[k] := (h.all k hk hk).1

/-- The root, bit by bit. -/
def rootF (n : Int) : Nat → Int → Int
  | 0, r => r
  | k + 1, r => if r + 2 ^ k ≤ n / (r + 2 ^ k) then rootF n k (r + 2 ^ k) else rootF n k r
theorem rootF_bd (n : Int) : ∀ (k : Nat) (r : Int), 0 ≤ r → 0 ≤ rootF n k r ∧ rootF n k r ≤ r + 2 ^ k - 1
  | 0, r, h => by simp [rootF]; exact h
  | k + 1, r, h => by
    have e : (2 : Int) ^ (k + 1) = 2 * 2 ^ k := by rw [Int.pow_succ]; omega
    have p : (0 : Int) < 2 ^ k := Int.pow_pos (by omega)
    unfold rootF
    split
    · have := rootF_bd n k (r + 2 ^ k) (by omega); omega
    · have := rootF_bd n k r h; omega
def rootV (n : Int) : Int := if n ≤ 0 then 0 else rootF n 32 0
theorem rootV_bd (n : Int) : 0 ≤ rootV n ∧ rootV n ≤ 4294967295 := by
  unfold rootV
  split
  · omega
  · have := rootF_bd n 32 0 (Int.le_refl _); simpa using this
def sqV (a b : PlcD) : Int := (a.x - b.x) * (a.x - b.x) + (a.y - b.y) * (a.y - b.y) + (a.z - b.z) * (a.z - b.z)
def clr (a b : PlcD) : Int := rootV (sqV a b) - a.reach - b.reach
theorem sq_flip (a b : Int) : (a - b) * (a - b) = (b - a) * (b - a) := by rw [← Int.neg_mul_neg (a - b) (a - b), Int.neg_sub]
theorem clr_symm (a b : PlcD) : clr a b = clr b a := by
  unfold clr sqV
  rw [sq_flip a.x b.x, sq_flip a.y b.y, sq_flip a.z b.z]; omega
theorem clr_bd {a b : PlcD} (ha : plcOk a) (hb : plcOk b) : -10000 ≤ clr a b ∧ clr a b ≤ 4294967295 := by
  have := rootV_bd (sqV a b)
  obtain ⟨_, _, _, _, h1⟩ := ha
  obtain ⟨_, _, _, _, h2⟩ := hb
  unfold clr; omega
theorem dif_bd {a b : Int} (h1 : 0 ≤ a) (h2 : a ≤ 20000) (h3 : 0 ≤ b) (h4 : b ≤ 20000) : 0 ≤ (a - b) * (a - b) ∧ (a - b) * (a - b) ≤ 400000000 := by
  have : (a - b) * (a - b) = ((a - b).natAbs : Int) * ((a - b).natAbs : Int) := by rw [Int.natAbs_mul_self' ]
  rw [this]
  have h : (a - b).natAbs ≤ 20000 := by omega
  have h5 : (a - b).natAbs * (a - b).natAbs ≤ 20000 * 20000 := Nat.mul_le_mul h h
  have : (((a - b).natAbs * (a - b).natAbs : Nat) : Int) = ((a - b).natAbs : Int) * ((a - b).natAbs : Int) := by simp
  omega

def hit (l : List PlcD) (gap : Int) (i j : Nat) : Prop := i < j ∧ clr (l.getD i zPlc) (l.getD j zPlc) < gap
instance (l : List PlcD) (gap : Int) (i j : Nat) : Decidable (hit l gap i j) := by unfold hit; infer_instance
def cntJ (l : List PlcD) (gap : Int) (i : Nat) : Nat → Nat
  | 0 => 0
  | j + 1 => cntJ l gap i j + (if hit l gap i j then 1 else 0)
def cntI (l : List PlcD) (gap : Int) : Nat → Nat
  | 0 => 0
  | i + 1 => cntI l gap i + cntJ l gap i l.length
theorem cntJ_yes {l : List PlcD} {gap : Int} {i j : Nat} (h : hit l gap i j) : cntJ l gap i (j + 1) = cntJ l gap i j + 1 := by
  conv => lhs; unfold cntJ
  rw [if_pos h]
theorem cntJ_no {l : List PlcD} {gap : Int} {i j : Nat} (h : ¬ hit l gap i j) : cntJ l gap i (j + 1) = cntJ l gap i j := by
  conv => lhs; unfold cntJ
  rw [if_neg h]; rfl
theorem cntJ_low (l : List PlcD) (gap : Int) (i : Nat) : ∀ j, j ≤ i + 1 → cntJ l gap i j = 0
  | 0, _ => rfl
  | j + 1, h => by
    unfold cntJ
    rw [cntJ_low l gap i j (by omega), if_neg (by unfold hit; omega)]
theorem cntJ_le (l : List PlcD) (gap : Int) (i : Nat) : ∀ j, cntJ l gap i j ≤ j
  | 0 => Nat.le_refl _
  | j + 1 => by
    have := cntJ_le l gap i j
    unfold cntJ
    split <;> omega
theorem cntI_le (l : List PlcD) (gap : Int) : ∀ i, cntI l gap i ≤ i * l.length
  | 0 => Nat.zero_le _
  | i + 1 => by
    have h1 := cntI_le l gap i
    have h2 := cntJ_le l gap i l.length
    have h3 : (i + 1) * l.length = i * l.length + l.length := Nat.succ_mul _ _
    unfold cntI; omega
theorem cntJ_mono (l : List PlcD) {g1 g2 : Int} (hg : g1 ≤ g2) (i : Nat) : ∀ j, cntJ l g1 i j ≤ cntJ l g2 i j
  | 0 => Nat.le_refl _
  | j + 1 => by
    have := cntJ_mono l hg i j
    unfold cntJ
    by_cases h : hit l g1 i j
    · rw [if_pos h, if_pos (show hit l g2 i j from ⟨h.1, by have := h.2; omega⟩)]; omega
    · rw [if_neg h]; omega
theorem cntI_mono (l : List PlcD) {g1 g2 : Int} (hg : g1 ≤ g2) : ∀ i, cntI l g1 i ≤ cntI l g2 i
  | 0 => Nat.le_refl _
  | i + 1 => by
    have := cntI_mono l hg i
    have := cntJ_mono l hg i l.length
    unfold cntI; omega
theorem cntJ_pos (l : List PlcD) (gap : Int) (i : Nat) : ∀ j, 0 < cntJ l gap i j ↔ ∃ k, k < j ∧ hit l gap i k
  | 0 => by simp [cntJ]
  | j + 1 => by
    have := cntJ_pos l gap i j
    unfold cntJ
    by_cases h : hit l gap i j
    · rw [if_pos h]
      exact ⟨fun _ => ⟨j, Nat.lt_succ_self _, h⟩, fun _ => by omega⟩
    · rw [if_neg h, Nat.add_zero, this]
      constructor
      · rintro ⟨k, h1, h2⟩; exact ⟨k, by omega, h2⟩
      · rintro ⟨k, h1, h2⟩
        by_cases e : k = j
        · subst e; exact absurd h2 h
        · exact ⟨k, by omega, h2⟩
theorem cntI_pos (l : List PlcD) (gap : Int) : ∀ i, 0 < cntI l gap i ↔ ∃ j k, j < i ∧ k < l.length ∧ hit l gap j k
  | 0 => by simp [cntI]
  | i + 1 => by
    have := cntI_pos l gap i
    have h2 := cntJ_pos l gap i l.length
    unfold cntI
    constructor
    · intro h
      by_cases g : 0 < cntI l gap i
      · obtain ⟨j, k, h1, h2, h3⟩ := this.1 g
        exact ⟨j, k, by omega, h2, h3⟩
      · obtain ⟨k, h1, h3⟩ := h2.1 (by omega)
        exact ⟨i, k, Nat.lt_succ_self _, h1, h3⟩
    · rintro ⟨j, k, h1, h3, h4⟩
      by_cases e : j = i
      · subst e
        have := h2.2 ⟨k, h3, h4⟩; omega
      · have := this.2 ⟨j, k, by omega, h3, h4⟩; omega

/-- The least clearance of a list of two places at least. -/
structure Least (l : List PlcD) (m : Int) : Prop where
  le : ∀ i j, i < j → j < l.length → m ≤ clr (l.getD i zPlc) (l.getD j zPlc)
  some : ∃ i j, i < j ∧ j < l.length ∧ m = clr (l.getD i zPlc) (l.getD j zPlc)
theorem least_hits {l : List PlcD} {m gap : Int} (h : Least l m) : m < gap ↔ 0 < cntI l gap l.length := by
  rw [cntI_pos]
  constructor
  · intro hm
    obtain ⟨i, j, h1, h2, h3⟩ := h.some
    exact ⟨i, j, by omega, h2, h1, by omega⟩
  · rintro ⟨i, j, h1, h2, h3, h4⟩
    have := h.le i j h3 h2
    omega
theorem least_le {l : List PlcD} {m : Int} (h : Least l m) {i j : Nat} (hi : i < l.length) (hj : j < l.length) (hn : i ≠ j) : m ≤ clr (l.getD i zPlc) (l.getD j zPlc) := by
  by_cases g : i < j
  · exact h.le i j g hj
  · rw [clr_symm]; exact h.le j i (by omega) hi
theorem cnt_few {l : List PlcD} (h : l.length < 2) (gap : Int) : cntI l gap l.length = 0 := by
  refine Nat.eq_zero_of_not_pos fun g => ?_
  obtain ⟨j, k, h1, h2, h3, _⟩ := (cntI_pos l gap l.length).1 g
  omega

/-- A place moved. -/
def moved (p : PlcD) (a b c : Int) : PlcD := ⟨p.bell, p.x + a, p.y + b, p.z + c, p.reach⟩
def moveAt (l : List PlcD) (k : Nat) (a b c : Int) : List PlcD := l.set k (moved (l.getD k zPlc) a b c)
theorem moveAt_len (l : List PlcD) (k : Nat) (a b c : Int) : (moveAt l k a b c).length = l.length := by simp [moveAt]
theorem moveAt_back {l : List PlcD} {k : Nat} (hk : k < l.length) (a b c : Int) : moveAt (moveAt l k a b c) k (-a) (-b) (-c) = l := by
  have e : (moveAt l k a b c).getD k zPlc = moved (l.getD k zPlc) a b c := by
    unfold moveAt
    rw [List.getD_eq_getElem?_getD, List.getElem?_set_self hk]; rfl
  have e2 : l.getD k zPlc = l[k] := by rw [List.getD_eq_getElem?_getD, List.getElem?_eq_getElem hk]; rfl
  have e3 : moved (moved (l.getD k zPlc) a b c) (-a) (-b) (-c) = l[k] := by
    rw [e2]
    unfold moved
    simp only [Int.add_neg_cancel_right]
  have e4 : moveAt (moveAt l k a b c) k (-a) (-b) (-c) = (moveAt l k a b c).set k l[k] := by
    conv => lhs; unfold moveAt
    rw [show (l.set k (moved (l.getD k zPlc) a b c)).getD k zPlc = _ from e, e3]; rfl
  rw [e4]
  unfold moveAt
  rw [List.set_set]
  exact List.set_getElem_self hk
theorem moveAt_ok {l : List PlcD} {k : Nat} (hk : k < l.length) (h : PlcsOk l) {a b c : Int} (hm : plcOk (moved l[k] a b c)) : PlcsOk (moveAt l k a b c) := by
  have e2 : l.getD k zPlc = l[k] := by rw [List.getD_eq_getElem?_getD, List.getElem?_eq_getElem hk]; rfl
  have at' : ∀ i (hi : i < l.length), (moveAt l k a b c)[i]'(by rw [moveAt_len]; exact hi) = if i = k then moved l[k] a b c else l[i] := fun i hi => by
    unfold moveAt
    simp only [e2, List.getElem_set]
    by_cases e : i = k
    · subst e; simp
    · rw [if_neg e, if_neg fun h => e h.symm]
  have bell : ∀ i (hi : i < l.length), ((moveAt l k a b c)[i]'(by rw [moveAt_len]; exact hi)).bell = l[i].bell := fun i hi => by
    rw [at' i hi]
    by_cases e : i = k
    · subst e; rw [if_pos rfl]; rfl
    · rw [if_neg e]
  refine ⟨fun i hi => ?_, by rw [moveAt_len]; exact h.len⟩
  rw [moveAt_len] at hi
  intro hi'
  refine ⟨?_, fun h0 => ?_⟩
  · rw [at' i hi]
    by_cases e : i = k
    · rw [if_pos e]; exact hm
    · rw [if_neg e]; exact h.ok hi
  · rw [bell i hi, bell (i - 1) (by omega)]
    exact (h.all i hi hi).2 h0

end Go.Proofs.YteaijhmgfddjiaaDoor
