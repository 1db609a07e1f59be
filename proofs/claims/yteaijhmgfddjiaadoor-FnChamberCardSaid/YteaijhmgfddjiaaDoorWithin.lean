/- Contracts of within and l00In. -/
import Derived.Test.YteaijhmgfddjiaaDoorChecked
import Derived.Test.YteaijhmgfddjiaaDoorMem
set_option linter.unusedSimpArgs false
set_option linter.unnecessarySimpa false
set_option linter.unusedVariables false
namespace Go.Proofs.YteaijhmgfddjiaaDoor
open Go.RowKit

theorem within_any (b : Bool) (n lo hi : Int) (w : World) (h : b = decide (lo ≤ n ∧ n ≤ hi)) :
    Calls Tryd.prog 21 #[.int .i64 n, .int .i64 lo, .int .i64 hi] w fun e w' => e = .returned (.bool b) ∧ w' = w := by
  subst h
  by_cases h1 : lo ≤ n <;> by_cases h2 : n ≤ hi
  all_goals
    have e1 : decide (n ≤ hi) = decide (n ≤ hi) := rfl
    first | have d1 : decide (lo ≤ n) = true := by simpa using h1
          | have d1 : decide (lo ≤ n) = false := by simpa using h1
    first | have d2 : decide (n ≤ hi) = true := by simpa using h2
          | have d2 : decide (n ≤ hi) = false := by simpa using h2
    clear e1
    go_enter Tryd.func21, Tryd.ntmps21
    go_wp2
    go_ret
    exact ⟨by simp [d1, d2, h1, h2], rfl⟩

end Go.Proofs.YteaijhmgfddjiaaDoor
