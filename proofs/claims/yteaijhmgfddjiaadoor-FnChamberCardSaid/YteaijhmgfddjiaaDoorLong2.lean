/- The laws' test of the lengths of two rows of bytes. -/
import Derived.Test.YteaijhmgfddjiaaDoorByts
set_option linter.unusedSimpArgs false
set_option linter.unnecessarySimpa false
set_option linter.unusedVariables false
set_option maxRecDepth 100000
namespace Go.Proofs.YteaijhmgfddjiaaDoor
open Go.RowKit

theorem r8Long_any (r : Bool) (a b : Option Addr) (n m c d : Nat) (w : World) (hn : n ≤ 9223372036854775807) (hm : m ≤ 9223372036854775807) (hr : r = (decide (1048576 < (n : Int)) || decide (1048576 < (m : Int)))) : Calls Tryd.prog 4 #[.slice a n c, .slice b m d] w fun e w' => e = .returned (.bool r) ∧ w = w' := by
  by_cases g : 1048576 < (n : Int)
  · have d1 : decide (1048576 < (n : Int)) = true := by simpa using g
    have d2 : decide (1048576 < n) = true := by simp; omega
    have D := Lib.hid (show r = true by rw [hr, d1]; rfl)
    clear g hr
    go_enter Tryd.func4, Tryd.ntmps4
    go_wp2
    go_ret
    exact ⟨by rw [D.out]; rfl, rfl⟩
  · have d1 : decide (1048576 < (n : Int)) = false := by simpa using g
    have d2 : decide (1048576 < n) = false := by simp; omega
    have D := Lib.hid (show r = decide (1048576 < (m : Int)) by rw [hr, d1]; rfl)
    clear g hr
    go_enter Tryd.func4, Tryd.ntmps4
    go_wp2
    go_ret
    exact ⟨by rw [D.out]; rfl, rfl⟩

end Go.Proofs.YteaijhmgfddjiaaDoor
