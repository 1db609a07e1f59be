/- The law FnExactRowText returns true and leaves memory as it was. -/
import Derived.Test.YtadnejajbdipoaaRowText
import Derived.Test.YtadnejajbdipoaaKIntsEq
import Derived.Test.YtadnejajbdipoaaKIntsTo
import Derived.Test.YtadnejajbdipoaaKIntsM
set_option linter.unusedSimpArgs false
set_option linter.unnecessarySimpa false
set_option linter.unusedVariables false
set_option maxRecDepth 100000
namespace Go.Proofs.Ytadnejajbdipoaa
open Go.RowKit

set_option maxHeartbeats 4000000 in
theorem lawRowText (w : World) (v0 : Value) (x0 : List Int) (h0 : Ints w v0 x0) (o0 : ∀ x ∈ x0, I64 x) :
    Calls Try.prog 4 #[v0] w fun e w' => e = .returned (.bool true) ∧ Below w.heap.size w w' := by
  have r0 : RdInts w v0 x0 := h0
  obtain ⟨a00, c00, rfl, hca, hcm, _⟩ := id h0
  have m0 : x0.length ≤ maxLen := by omega
  clear hca hcm
  unfold maxLen at m0
  by_cases g0 : x0.length ≤ 1048576
  · skip
    have q0 : x0.length ≤ 1048576 := g0
    go_enter Try.func4, Try.ntmps4
    go_wp2_with fail
    refine (toIntsK _ (x0) _ (r0.mono (by (repeat (first | with_reducible exact Below.refl _ _ | with_reducible exact hbw | (with_reducible refine Below.setCell ?_ ?_ _; rotate_left; · first | exact Nat.le_refl _ | omega | (simp; done) | (simp; omega)) | (with_reducible refine Below.alloc ?_ ?_ _; rotate_left; · first | exact Nat.le_refl _ | omega | (simp; done) | (simp; omega)) | with_reducible refine below_drewN ?_ _ | with_reducible refine Below.drew ?_)))) q0).mono ?_
    rintro e w1 ⟨v1, rfl, ho2, h1⟩
    obtain ⟨a3, c4, rfl⟩ := ho2.form
    have f5 : OwnInts w.heap.size w1.heap.size w1 (.slice a3 (x0).length c4) (x0) := ho2
    clear ho2
    have sz1 : w.heap.size ≤ w1.heap.size := h1.size
    have bw1 : Below w.heap.size w w1 := h1
    go_wp2_with fail
    refine (specRowText_any _ (x0) _ (OwnInts.rd f5) o0 q0).mono ?_
    rintro e w2 ⟨rfl, h2⟩
    have sz2 : w1.heap.size ≤ w2.heap.size := h2.size
    have bw2 : Below w.heap.size w w2 := bw1.trans (h2.mono bw1.size)
    have f8 := f5.mono h2
    clear f5
    go_wp2_with fail
    refine (toIntsK _ (x0) _ (r0.mono (by have hbw := bw2; (repeat (first | with_reducible exact Below.refl _ _ | with_reducible exact hbw | (with_reducible refine Below.setCell ?_ ?_ _; rotate_left; · first | exact Nat.le_refl _ | omega | (simp; done) | (simp; omega)) | (with_reducible refine Below.alloc ?_ ?_ _; rotate_left; · first | exact Nat.le_refl _ | omega | (simp; done) | (simp; omega)) | with_reducible refine below_drewN ?_ _ | with_reducible refine Below.drew ?_)))) q0).mono ?_
    rintro e w3 ⟨v9, rfl, ho10, h3⟩
    obtain ⟨a11, c12, rfl⟩ := ho10.form
    have f13 : OwnInts w2.heap.size w3.heap.size w3 (.slice a11 (x0).length c12) (x0) := ho10
    clear ho10
    have sz3 : w2.heap.size ≤ w3.heap.size := h3.size
    have bw3 : Below w.heap.size w w3 := bw2.trans (h3.mono bw2.size)
    have f15 := f8.mono h3
    clear f8
    go_wp2_with fail
    refine (implRowText_any _ (x0) _ (OwnInts.rd f13) o0 q0).mono ?_
    rintro e w4 ⟨rfl, h4⟩
    have sz4 : w3.heap.size ≤ w4.heap.size := h4.size
    have bw4 : Below w.heap.size w w4 := bw3.trans (h4.mono bw3.size)
    have f17 := f15.mono h4
    have f18 := f13.mono h4
    clear f15 f13
    go_wp2_with fail
    refine (toIntsK _ (x0) _ (r0.mono (by have hbw := bw4; (repeat (first | with_reducible exact Below.refl _ _ | with_reducible exact hbw | (with_reducible refine Below.setCell ?_ ?_ _; rotate_left; · first | exact Nat.le_refl _ | omega | (simp; done) | (simp; omega)) | (with_reducible refine Below.alloc ?_ ?_ _; rotate_left; · first | exact Nat.le_refl _ | omega | (simp; done) | (simp; omega)) | with_reducible refine below_drewN ?_ _ | with_reducible refine Below.drew ?_)))) q0).mono ?_
    rintro e w5 ⟨v19, rfl, ho20, h5⟩
    obtain ⟨a21, c22, rfl⟩ := ho20.form
    have f23 : OwnInts w4.heap.size w5.heap.size w5 (.slice a21 (x0).length c22) (x0) := ho20
    clear ho20
    have sz5 : w4.heap.size ≤ w5.heap.size := h5.size
    have bw5 : Below w.heap.size w w5 := bw4.trans (h5.mono bw4.size)
    have f25 := f17.mono h5
    have f26 := f18.mono h5
    clear f17 f18
    go_wp2_with fail
    refine (eqIntsK _ _ (x0) _ (OwnInts.rd f26) (OwnInts.rd f23)).mono ?_
    rintro e w6 ⟨rfl, h6⟩
    have sz6 : w5.heap.size ≤ w6.heap.size := h6.size
    have bw6 : Below w.heap.size w w6 := bw5.trans (h6.mono bw5.size)
    have f28 := f25.mono h6
    have f29 := f26.mono h6
    have f30 := f23.mono h6
    clear f25 f26 f23
    go_wp2
    go_ret
    exact ⟨rfl, bw6⟩
  · skip
    go_enter Try.func4, Try.ntmps4
    go_wp2
    go_ret
    refine ⟨rfl, ?_⟩
    (repeat (first | with_reducible exact Below.refl _ _ | with_reducible exact hbw | (with_reducible refine Below.setCell ?_ ?_ _; rotate_left; · first | exact Nat.le_refl _ | omega | (simp; done) | (simp; omega)) | (with_reducible refine Below.alloc ?_ ?_ _; rotate_left; · first | exact Nat.le_refl _ | omega | (simp; done) | (simp; omega)) | with_reducible refine below_drewN ?_ _ | with_reducible refine Below.drew ?_))

end Go.Proofs.Ytadnejajbdipoaa
