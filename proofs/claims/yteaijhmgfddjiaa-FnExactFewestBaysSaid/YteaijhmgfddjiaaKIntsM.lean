/- The laws' marks over slices of numbers, in the form that the laws' walks take. -/
import Derived.Test.YteaijhmgfddjiaaKInts
import Derived.Test.YteaijhmgfddjiaaIntsM
set_option linter.unusedSimpArgs false
set_option linter.unnecessarySimpa false
set_option linter.unusedVariables false
namespace Go.Proofs.Yteaijhmgfddjiaa
open Go.RowKit

theorem markIntsK (B E : Nat) (v : Value) (xs : List Int) (k : Int) (w : World) (h : OwnInts B E w v xs) (h0 : 0 ≤ k) (hk : k + xs.length * 1 ≤ 1000000000) :
    Calls Try.prog 25 #[v, .int .i64 k] w fun e w' => e = .returned (.int .i64 (k + xs.length * 1)) ∧ MkInts B E w' v xs k ∧ Touch B E w w' := by
  obtain ⟨j, rfl⟩ := Int.eq_ofNat_of_zero_le h0
  refine (markInts_any v xs.length B _ _ j w h.1 (by omega)).mono fun e w' ⟨he, ho, hg⟩ => ⟨by rw [he]; congr 2 <;> omega, ⟨by rw [marksI_nat]; exact ho, h.2⟩, Touch.of_grown hg fun k hk => ⟨(h.1.lt k hk).1, h.2 k hk⟩⟩
theorem heldIntsK (B E : Nat) (v : Value) (xs : List Int) (k : Int) (w : World) (h : MkInts B E w v xs k) (h0 : 0 ≤ k) (hk : k + xs.length * 1 ≤ 1000000000) :
    Calls Try.prog 26 #[v, .int .i64 k] w fun e w' => e = .returned (.int .i64 (k + xs.length * 1)) ∧ Below w.heap.size w w' := by
  obtain ⟨j, rfl⟩ := Int.eq_ofNat_of_zero_le h0
  refine (heldInts_any v xs.length j w (by rw [← marksI_nat]; exact OwnRow.sl h) (by omega)).mono fun e w' ⟨he, hw⟩ => ⟨by rw [he]; congr 2 <;> omega, by rw [hw]; exact Below.refl _ _⟩

end Go.Proofs.Yteaijhmgfddjiaa
