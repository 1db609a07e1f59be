/- Decimal numerals, digit by digit. No program in sight. -/
import Derived.Test.YteaijhmgfddjiaaDoorApp
import Derived.Lib.ItoaMem
import Derived.Lib.ItoaLen
import Derived.Lib.Join
import Derived.IntWalk
set_option linter.unusedSimpArgs false
set_option linter.unnecessarySimpa false
set_option linter.unusedVariables false
set_option maxRecDepth 100000
namespace Go.Proofs.YteaijhmgfddjiaaDoor
open Go.RowKit

/-- The digits of u, none for 0. -/
def decP (u : Nat) : List UInt8 := if u = 0 then [] else Lib.decDigits u
theorem decP_zero : decP 0 = [] := rfl
theorem decP_pos {u : Nat} (h : 0 < u) : decP u = decP (u / 10) ++ [UInt8.ofNat (48 + u % 10)] := by
  unfold decP
  rw [if_neg (by omega)]
  by_cases g : u < 10
  · rw [Lib.decDigits, dif_pos g, if_pos (by omega), Nat.mod_eq_of_lt g]; rfl
  · rw [Lib.decDigits, dif_neg g, if_neg (by omega)]
theorem decP_eq {u : Nat} (h : 0 < u) : decP u = Lib.decDigits u := by unfold decP; rw [if_neg (by omega)]
/-- u is left of a, its digits so far are ds, the last one first. -/
def Digs (a u : Nat) (ds : List UInt8) : Prop := decP u ++ ds.reverse = Lib.decDigits a
theorem Digs.start {a : Nat} (h : 0 < a) : Digs a a [] := by unfold Digs; rw [decP_eq h]; simp
theorem Digs.step {a u : Nat} {ds : List UInt8} (h : Digs a u ds) (hu : 0 < u) : Digs a (u / 10) (ds ++ [UInt8.ofNat (48 + u % 10)]) := by
  unfold Digs at *
  rw [decP_pos hu] at h
  rw [← h]; simp
theorem Digs.done {a : Nat} {ds : List UInt8} (h : Digs a 0 ds) : ds.reverse = Lib.decDigits a := by unfold Digs at h; rw [decP_zero] at h; simpa using h
theorem Digs.len {a u : Nat} {ds : List UInt8} (h : Digs a u ds) : ds.length ≤ (Lib.decDigits a).length := by
  unfold Digs at h
  have := congrArg List.length h
  simp at this; omega
theorem decDigits_len {n : Int} (h : I64 n) : (Lib.decDigits n.natAbs).length ≤ 21 := by
  have b := h.bd
  have := Lib.itoa_length_le n b.1 b.2
  unfold Lib.itoa at this
  split at this
  · simp at this; omega
  · have e : n.toNat = n.natAbs := by omega
    rwa [e] at this
theorem itoa_len {n : Int} (h : I64 n) : (Lib.itoa n).length ≤ 21 := Lib.itoa_length_le n h.bd.1 h.bd.2
theorem itoa_pos {n : Int} (h : 0 ≤ n) : Lib.itoa n = Lib.decDigits n.natAbs := by
  unfold Lib.itoa
  rw [if_neg (by omega), show n.toNat = n.natAbs by omega]
theorem itoa_negs {n : Int} (h : n < 0) : Lib.itoa n = 45 :: Lib.decDigits n.natAbs := by unfold Lib.itoa; rw [if_pos h]
theorem byteCells_eq (l : List UInt8) : Lib.byteCells l = l.map fun b => Value.int .u8 b.toNat := by first | rfl | simp [Lib.byteCells]
theorem byteCells_snoc (l : List UInt8) (b : UInt8) : Lib.byteCells (l ++ [b]) = Lib.byteCells l ++ [.int .u8 (b.toNat : Int)] := by simp [byteCells_eq]
theorem byteCells_len (l : List UInt8) : (Lib.byteCells l).length = l.length := by simp [byteCells_eq]
theorem ofNat_toNat {k : Nat} (h : k < 256) : (UInt8.ofNat k).toNat = k := by simp [UInt8.toNat_ofNat, Nat.mod_eq_of_lt h]

end Go.Proofs.YteaijhmgfddjiaaDoor
