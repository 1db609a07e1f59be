/- The law FnExactValidChange returns true and leaves memory as it was. -/
import Derived.Test.YtedaocaicdeioaaStay
set_option linter.unusedSimpArgs false
set_option linter.unnecessarySimpa false
set_option linter.unusedVariables false
set_option maxRecDepth 100000
namespace Go.Proofs.Ytedaocaicdeioaa
open Go.RowKit

set_option maxHeartbeats 4000000 in
theorem lawValidChange (w : World) (s0 : ByteArray) (p0 : s0.size ≤ maxLen) (n1 : Int) (o1 : I64 n1) :
    Calls Try.prog 5 #[.string s0, .int .i64 n1] w fun e w' => e = .returned (.bool true) ∧ Below w.heap.size w w' := by
  unfold maxLen at p0
  by_cases g0 : s0.size ≤ 1048576
  · skip
    have q0 : s0.size ≤ 1048576 := g0
    go_enter Try.func5, Try.ntmps5
    go_wp2_with fail
    refine (specValidChange_any (s0) (n1) _ q0 o1).mono ?_
    rintro e w1 ⟨rfl, h1⟩
    have sz1 : w.heap.size ≤ w1.heap.size := h1.size
    have bw1 : Below w.heap.size w w1 := h1
    go_wp2_with fail
    refine (implValidChange_any (s0) (n1) _ q0 o1).mono ?_
    rintro e w2 ⟨rfl, h2⟩
    have sz2 : w1.heap.size ≤ w2.heap.size := h2.size
    have bw2 : Below w.heap.size w w2 := bw1.trans (h2.mono bw1.size)
    go_wp2
    go_ret
    exact ⟨rfl, bw2⟩
  · skip
    go_enter Try.func5, Try.ntmps5
    go_wp2
    go_ret
    refine ⟨rfl, ?_⟩
    (repeat (first | with_reducible exact Below.refl _ _ | with_reducible exact hbw | (with_reducible refine Below.setCell ?_ ?_ _; rotate_left; · first | exact Nat.le_refl _ | omega | (simp; done) | (simp; omega)) | (with_reducible refine Below.alloc ?_ ?_ _; rotate_left; · first | exact Nat.le_refl _ | omega | (simp; done) | (simp; omega)) | with_reducible refine below_drewN ?_ _ | with_reducible refine Below.drew ?_))

end Go.Proofs.Ytedaocaicdeioaa
