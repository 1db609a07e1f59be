/- The law FnExactValidSet returns true and leaves memory as it was. -/
import Derived.Test.YtmfmafimienafaaSet
set_option linter.unusedSimpArgs false
set_option linter.unusedVariables false
namespace Go.Proofs.Ytmfmafimienafaa
open Go.RowKit

set_option maxHeartbeats 400000 in
theorem lawValidSet (w : World) (v : Value) (xs : List Int) (h1 : Ints w v xs) (_ : ∀ x ∈ xs, (Lit.int .i64 x).wf = true) :
    Calls Try.prog 3 #[v] w fun e w' => e = .returned (.bool true) ∧ Below w.heap.size w w' := by
  obtain ⟨a, ca, rfl, hca, hcm, _⟩ := id h1
  have hm : xs.length ≤ maxLen := by omega
  clear hca hcm
  unfold maxLen at hm
  by_cases hl : xs.length ≤ 1048576
  · go_enter Try.func3, Try.ntmps3
    go_wp2_with fail
    refine (toInts_any _ xs _ h1 hl).mono ?_
    rintro e w1 ⟨v1, rfl, ho1, hb1⟩
    go_wp2_with fail
    refine (specValidSet_any _ xs _ (Ints.of_owns ho1)).mono ?_
    rintro e w2 ⟨rfl, hq2⟩
    have hb2 := hb1.trans (hq2.below _)
    go_wp2_with fail
    refine (toInts_any _ xs _ (h1.mono hb2) hl).mono ?_
    rintro e w3 ⟨v3, rfl, ho3, hb3⟩
    go_wp2_with fail
    refine (implValidSet_any _ xs _ (Ints.of_owns ho3)).mono ?_
    rintro e w4 ⟨rfl, hq4⟩
    go_wp2_with fail
    have hb4 := (hb2.trans (hb3.mono hb2.size)).trans (hq4.below _)
    refine (toInts_any _ xs _ (h1.mono hb4) hl).mono ?_
    rintro e w5 ⟨v5, rfl, ho5, hb5⟩
    go_wp2_with fail
    refine (eqInts_any _ _ xs xs _ ((Ints.of_owns ho3).mono ((hq4.below _).trans (hb5.mono (by rw [hq4.heap]; exact Nat.le_refl _)))) (Ints.of_owns ho5)).mono ?_
    rintro e w6 ⟨rfl, hq6⟩
    have hd : decide (xs = xs) = true := by simp
    go_wp2
    go_ret
    exact ⟨rfl, (hb4.trans (hb5.mono hb4.size)).trans (hq6.below _)⟩
  · go_enter Try.func3, Try.ntmps3
    go_wp2
    go_ret
    exact ⟨rfl, Below.refl _ _⟩

end Go.Proofs.Ytmfmafimienafaa
