/- Contracts of OrderOfRow of both packages. -/
import Derived.Test.YteaijhmgfddjiaaCompI
set_option linter.unusedSimpArgs false
set_option linter.unnecessarySimpa false
set_option linter.unusedVariables false
set_option maxRecDepth 100000
namespace Go.Proofs.Yteaijhmgfddjiaa
open Go.RowKit

set_option maxHeartbeats 400000 in
theorem l00Own_any (v : Value) (xs : List Int) (w : World) (h : Ints w v xs) (hs : xs.length ≤ 1048576) :
    Calls Try.prog 51 #[v] w fun e w' => ∃ v', e = .returned v' ∧ OwnInts w.heap.size w'.heap.size w' v' xs ∧ Below w.heap.size w w' := by
  obtain ⟨a, ca, rfl, hca, hcm, _⟩ := id h
  go_enter Try.func51, Try.ntmps51
  go_wp2_with (at_builtin; refine append_all rfl _ _ 28 rfl w.heap.size 2 _ 1 8 Try.underlying28 info_int rfl (by decide) (.slice (some ⟨w.heap.size, 0, none⟩) 0 0) 0 [] rfl (owns_empty w 2 1 _ (Nat.le_refl _)) (.slice a xs.length ca) xs.length (xs.map (Value.int .i64)) rfl (Ints.mono h (by (repeat (first | with_reducible exact Below.refl _ _ | with_reducible exact hbw | (with_reducible refine Below.setCell ?_ ?_ _; rotate_left; · first | exact Nat.le_refl _ | omega | (simp; done) | (simp; omega)) | (with_reducible refine Below.alloc ?_ ?_ _; rotate_left; · first | exact Nat.le_refl _ | omega | (simp; done) | (simp; omega)) | with_reducible refine below_drewN ?_ _ | with_reducible refine Below.drew ?_)))) (by simp) (ints_one xs) (by omega) (by decide) (by simp) ?_)
  intro a' c' w1 ho hg hb
  go_wp2
  go_ret
  exact ⟨_, rfl, OwnInts.mk' (by simpa using ho), Below.trans (by (repeat (first | with_reducible exact Below.refl _ _ | with_reducible exact hbw | (with_reducible refine Below.setCell ?_ ?_ _; rotate_left; · first | exact Nat.le_refl _ | omega | (simp; done) | (simp; omega)) | (with_reducible refine Below.alloc ?_ ?_ _; rotate_left; · first | exact Nat.le_refl _ | omega | (simp; done) | (simp; omega)) | with_reducible refine below_drewN ?_ _ | with_reducible refine Below.drew ?_))) hb⟩

theorem ord_c {xs : List Int} : (RowOk xs → ordC xs = 0) ∧ (¬ RowOk xs → ordC xs = 1) := ⟨fun h => if_pos h, fun h => if_neg h⟩

end Go.Proofs.Yteaijhmgfddjiaa
