/- Contracts of within and l00In. -/
import Derived.Test.YteaijhmgfddjiaaChecked
import Derived.Test.YteaijhmgfddjiaaMem
set_option linter.unusedSimpArgs false
set_option linter.unnecessarySimpa false
set_option linter.unusedVariables false
namespace Go.Proofs.Yteaijhmgfddjiaa
open Go.RowKit

theorem within_any (b : Bool) (n lo hi : Int) (w : World) (h : b = decide (lo ≤ n ∧ n ≤ hi)) :
    Calls Try.prog 42 #[.int .i64 n, .int .i64 lo, .int .i64 hi] w fun e w' => e = .returned (.bool b) ∧ w' = w := by
  subst h
  by_cases h1 : lo ≤ n <;> by_cases h2 : n ≤ hi
  all_goals
    have e1 : decide (n ≤ hi) = decide (n ≤ hi) := rfl
    first | have d1 : decide (lo ≤ n) = true := by simpa using h1
          | have d1 : decide (lo ≤ n) = false := by simpa using h1
    first | have d2 : decide (n ≤ hi) = true := by simpa using h2
          | have d2 : decide (n ≤ hi) = false := by simpa using h2
    clear e1
    go_enter Try.func42, Try.ntmps42
    go_wp2
    go_ret
    exact ⟨by simp [d1, d2, h1, h2], rfl⟩

theorem l00In_any (b : Bool) (n lo hi : Int) (w : World) (h : b = decide (lo ≤ n ∧ n ≤ hi)) :
    Calls Try.prog 71 #[.int .i64 n, .int .i64 lo, .int .i64 hi] w fun e w' => e = .returned (.bool b) ∧ w' = w := by
  subst h
  by_cases h1 : lo ≤ n <;> by_cases h2 : n ≤ hi
  all_goals
    first | have d1 : decide (lo ≤ n) = true := by simpa using h1
          | have d1 : decide (lo ≤ n) = false := by simpa using h1
    first | have d2 : decide (n ≤ hi) = true := by simpa using h2
          | have d2 : decide (n ≤ hi) = false := by simpa using h2
    go_enter Try.func71, Try.ntmps71
    go_wp2
    go_ret
    exact ⟨by simp [d1, d2, h1, h2], rfl⟩

end Go.Proofs.Yteaijhmgfddjiaa
