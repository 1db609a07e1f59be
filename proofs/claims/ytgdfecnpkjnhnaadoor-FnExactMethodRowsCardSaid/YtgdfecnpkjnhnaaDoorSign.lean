/- The signs of bells: contracts of l27Sign, l27Value and what IndexByte says of a sign. -/
import Derived.Test.YtgdfecnpkjnhnaaDoorShelf
import Derived.Test.YtgdfecnpkjnhnaaDoorWithin
import Derived.Deep.QuietTactic
import Derived.BigQuiet
set_option linter.unusedSimpArgs false
set_option linter.unnecessarySimpa false
set_option linter.unusedVariables false
set_option maxRecDepth 100000
namespace Go.Proofs.YtgdfecnpkjnhnaaDoor
open Go.RowKit

def sgn (k : Nat) : Int := [0, 49, 50, 51, 52, 53, 54, 55, 56, 57, 48, 69, 84].getD k 0
/-- The bell of a sign, or 0. -/
def valN (c : Int) : Int := if c = 49 then 1 else if c = 50 then 2 else if c = 51 then 3 else if c = 52 then 4 else if c = 53 then 5 else if c = 54 then 6 else if c = 55 then 7 else if c = 56 then 8 else if c = 57 then 9 else if c = 48 then 10 else if c = 69 then 11 else if c = 84 then 12 else 0
theorem val_hit {k : Nat} (h1 : 1 ≤ k) (h2 : k ≤ 12) : valN (sgn k) = (k : Int) := by
  have : k = 1 ∨ k = 2 ∨ k = 3 ∨ k = 4 ∨ k = 5 ∨ k = 6 ∨ k = 7 ∨ k = 8 ∨ k = 9 ∨ k = 10 ∨ k = 11 ∨ k = 12 := by omega
  rcases this with rfl | rfl | rfl | rfl | rfl | rfl | rfl | rfl | rfl | rfl | rfl | rfl <;> decide
theorem val_none {c : Int} (h : ∀ k, 1 ≤ k → k ≤ 12 → sgn k ≠ c) : valN c = 0 := by
  have a1 : 49 ≠ c := h 1 (by decide) (by decide)
  have a2 : 50 ≠ c := h 2 (by decide) (by decide)
  have a3 : 51 ≠ c := h 3 (by decide) (by decide)
  have a4 : 52 ≠ c := h 4 (by decide) (by decide)
  have a5 : 53 ≠ c := h 5 (by decide) (by decide)
  have a6 : 54 ≠ c := h 6 (by decide) (by decide)
  have a7 : 55 ≠ c := h 7 (by decide) (by decide)
  have a8 : 56 ≠ c := h 8 (by decide) (by decide)
  have a9 : 57 ≠ c := h 9 (by decide) (by decide)
  have a10 : 48 ≠ c := h 10 (by decide) (by decide)
  have a11 : 69 ≠ c := h 11 (by decide) (by decide)
  have a12 : 84 ≠ c := h 12 (by decide) (by decide)
  unfold valN
  rw [if_neg (fun e => a1 e.symm), if_neg (fun e => a2 e.symm), if_neg (fun e => a3 e.symm), if_neg (fun e => a4 e.symm), if_neg (fun e => a5 e.symm), if_neg (fun e => a6 e.symm), if_neg (fun e => a7 e.symm), if_neg (fun e => a8 e.symm), if_neg (fun e => a9 e.symm), if_neg (fun e => a10 e.symm), if_neg (fun e => a11 e.symm), if_neg (fun e => a12 e.symm)]
theorem val_bd (c : Int) : 0 ≤ valN c ∧ valN c ≤ 12 := by
  unfold valN
  repeat' split
  all_goals omega
def signB : ByteArray := ⟨#[49, 50, 51, 52, 53, 54, 55, 56, 57, 48, 69, 84]⟩
theorem val_all : ∀ c : Fin 256, Lib.indexByte signB.data.toList c.val.toUInt8 + 1 = valN c.val := by decide +kernel
theorem val_index {c : Int} (h1 : 0 ≤ c) (h2 : c ≤ 255) : Lib.indexByte signB.data.toList c.toNat.toUInt8 + 1 = valN c := by
  have := val_all ⟨c.toNat, by omega⟩
  simp only at this
  rw [this, Int.toNat_of_nonneg h1]

theorem l27Sign_any (k : Nat) (w : World) (h1 : 1 ≤ k) (h2 : k ≤ 12) :
    Calls Tryd.prog 100 #[.int .i64 (k : Int)] w fun e w' => e = .returned (.int .u8 (sgn k)) ∧ w' = w := by
  have : k = 1 ∨ k = 2 ∨ k = 3 ∨ k = 4 ∨ k = 5 ∨ k = 6 ∨ k = 7 ∨ k = 8 ∨ k = 9 ∨ k = 10 ∨ k = 11 ∨ k = 12 := by omega
  rcases this with rfl | rfl | rfl | rfl | rfl | rfl | rfl | rfl | rfl | rfl | rfl | rfl
  all_goals
    go_enter Tryd.func100, Tryd.ntmps100
    go_wp2
    go_ret
    exact ⟨by rfl, rfl⟩

set_option maxHeartbeats 400000 in
theorem l27Value_any (c : Int) (w : World) :
    Calls Tryd.prog 79 #[.int .u8 c] w fun e w' => e = .returned (.int .i64 (valN c)) ∧ w' = w := by
  go_enter Tryd.func79, Tryd.ntmps79
  go_wp2_with fail
  go_loopw [3] (fun i wr => ∃ k f : Nat, k + f = 13 ∧ 1 ≤ k ∧ i = .int .i64 (k : Int) ∧ (∀ j, 1 ≤ j → j < k → sgn j ≠ c) ∧ wr = w) (fun i _ => 13 - (intOf i).toNat)
  case atStart => exact ⟨1, 12, rfl, Nat.le_refl _, by go_num, by intro j h1 h2; omega, rfl⟩
  case round =>
    obtain ⟨k, f, hk, hk1, rfl, hn, rfl⟩ := hrel
    have HN := Lib.hid hn; clear hn
    rcases f with _ | f
    · have dk : decide ((k : Int) ≤ 12) = false := by simp; omega
      have HX := Lib.hid (val_none (c := c) fun j h1 h2 => HN.out j h1 (by omega))
      go_wp2
      go_ret
      exact ⟨ret_int HX.out.symm, by first | rfl | trivial⟩
    · have dk : decide ((k : Int) ≤ 12) = true := by simp; omega
      by_cases he : sgn k = c
      · have d1 : (sgn k == c) = true := by simpa using he
        have HX := Lib.hid (show valN c = (k : Int) by rw [← he]; exact val_hit hk1 (by omega))
        clear he
        go_wp2_with fail
        refine (l27Sign_any k _ hk1 (by omega)).mono ?_
        rintro e w1 ⟨rfl, rfl⟩
        go_wp2
        go_ret
        exact ⟨ret_int HX.out.symm, by first | rfl | trivial⟩
      · have d1 : (sgn k == c) = false := by simpa using he
        have HE := Lib.hid he; clear he
        go_wp2_with fail
        refine (l27Sign_any k _ hk1 (by omega)).mono ?_
        rintro e w1 ⟨rfl, rfl⟩
        go_wp2
        go_roundw
        case rel =>
          refine ⟨k + 1, f, by omega, by omega, by go_num, fun j h1 h2 => ?_, by first | rfl | trivial⟩
          rcases Nat.lt_or_eq_of_le (Nat.le_of_lt_succ h2) with h3 | h3
          · exact HN.out j h1 h3
          · subst h3; exact HE.out
        case measure => simp [intOf] <;> omega

end Go.Proofs.YtgdfecnpkjnhnaaDoor
