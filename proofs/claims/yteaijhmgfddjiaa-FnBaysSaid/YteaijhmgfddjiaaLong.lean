/- The laws' test of the length of their bytes. -/
import Derived.Test.YteaijhmgfddjiaaByts
set_option linter.unusedSimpArgs false
set_option linter.unnecessarySimpa false
set_option linter.unusedVariables false
set_option maxRecDepth 100000
namespace Go.Proofs.Yteaijhmgfddjiaa
open Go.RowKit

theorem b10Long_any (a : Option Addr) (n c : Nat) (w : World) (hn : n ≤ 9223372036854775807) : Calls Try.prog 6 #[.slice a n c] w fun e w' => e = .returned (.bool (decide (1048576 < (n : Int)))) ∧ w = w' := by
  by_cases g : 1048576 < (n : Int)
  · have d1 : decide (1048576 < (n : Int)) = true := by simpa using g
    have d2 : decide (1048576 < n) = true := by simp; omega
    have D := Lib.hid d1
    clear g
    go_enter Try.func6, Try.ntmps6
    go_wp2
    go_ret
    exact ⟨by rw [D.out]; rfl, rfl⟩
  · have d1 : decide (1048576 < (n : Int)) = false := by simpa using g
    have d2 : decide (1048576 < n) = false := by simp; omega
    have D := Lib.hid d1
    clear g
    go_enter Try.func6, Try.ntmps6
    go_wp2
    go_ret
    exact ⟨by rw [D.out]; rfl, rfl⟩

end Go.Proofs.Yteaijhmgfddjiaa
