/- The laws' equality of slices of numbers, in the form that the laws' walks take. -/
import Derived.Test.YteaijhmgfddjiaaKInts
import Derived.Test.YteaijhmgfddjiaaInts
set_option linter.unusedSimpArgs false
set_option linter.unnecessarySimpa false
set_option linter.unusedVariables false
namespace Go.Proofs.Yteaijhmgfddjiaa
open Go.RowKit

theorem eqIntsK (v1 v2 : Value) (xs : List Int) (w : World) (h1 : RdInts w v1 xs) (h2 : RdInts w v2 xs) :
    Calls Try.prog 20 #[v1, v2] w fun e w' => e = .returned (.bool true) ∧ Below w.heap.size w w' :=
  (eqInts_any v1 v2 xs xs w h1 h2).mono fun e w' ⟨he, hq⟩ => ⟨by rw [he]; simp, hq.below _⟩

end Go.Proofs.Yteaijhmgfddjiaa
