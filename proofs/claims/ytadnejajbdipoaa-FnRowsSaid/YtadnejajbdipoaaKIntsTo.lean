/- The laws' copy of a slice of numbers, in the form that the laws' walks take. -/
import Derived.Test.YtadnejajbdipoaaKInts
import Derived.Test.YtadnejajbdipoaaIntsTo
set_option linter.unusedSimpArgs false
set_option linter.unnecessarySimpa false
set_option linter.unusedVariables false
namespace Go.Proofs.Ytadnejajbdipoaa
open Go.RowKit

theorem toIntsK (v : Value) (xs : List Int) (w : World) (h : RdInts w v xs) (hs : xs.length ≤ 1048576) :
    Calls Try.prog 12 #[v] w fun e w' => ∃ v', e = .returned v' ∧ OwnInts w.heap.size w'.heap.size w' v' xs ∧ Below w.heap.size w w' :=
  (toInts_any v xs w h hs).mono fun e w' ⟨v', he, ho, hb⟩ => ⟨v', he, OwnRow.mk' ho, hb⟩

end Go.Proofs.Ytadnejajbdipoaa
