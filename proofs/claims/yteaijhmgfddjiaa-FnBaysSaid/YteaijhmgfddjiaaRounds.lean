/- Contracts of rounds and RoundsOf of both packages. -/
import Derived.Test.YteaijhmgfddjiaaWithin
import Derived.Test.YteaijhmgfddjiaaKInts
set_option linter.unusedSimpArgs false
set_option linter.unnecessarySimpa false
set_option linter.unusedVariables false
namespace Go.Proofs.Yteaijhmgfddjiaa
open Go.RowKit

/-- The row 1, 2 .. n. -/
def rounds (n : Nat) : List Int := (List.range n).map fun (i : Nat) => (i : Int) + 1
theorem rounds_succ' (n : Nat) : rounds (n + 1) = rounds n ++ [(n : Int) + 1] := by simp [rounds, List.range_succ]
theorem rounds_len (n : Nat) : (rounds n).length = n := by simp [rounds]

def stage (n : Int) : Prop := 3 ≤ n ∧ n ≤ 12
instance (n : Int) : Decidable (stage n) := by unfold stage; infer_instance
def roundsOf (n : Int) : List Int := if stage n then rounds n.toNat else []
def roundsCode (n : Int) : Int := if stage n then 0 else 2

/-- A result of a list and a code. -/
def Two (w w' : World) (e : Ending) (xs : List Int) (code : Int) : Prop :=
  ∃ v, e = .returned (.tuple #[v, .int .i64 code]) ∧ OwnInts w.heap.size w'.heap.size w' v xs ∧ Below w.heap.size w w'

theorem roundsOf_len (n : Int) : (roundsOf n).length ≤ 1000 := by
  unfold roundsOf; split
  · rename_i h; unfold stage at h; rw [rounds_len]; omega
  · simp

end Go.Proofs.Yteaijhmgfddjiaa
