/- The law FnExactRunsOf returns true and leaves memory as it was. -/
import Derived.Test.YtadnejajbdipoaaRuns
import Derived.Test.YtadnejajbdipoaaIntssTo
set_option linter.unusedSimpArgs false
set_option linter.unnecessarySimpa false
set_option linter.unusedVariables false
set_option maxRecDepth 100000
namespace Go.Proofs.Ytadnejajbdipoaa
open Go.RowKit

set_option maxHeartbeats 4000000 in
theorem lawRunsOf (w : World) (v0 : Value) (x0 : List (List Int)) (h0 : RdIntss w v0 x0) (o0 : okIntss x0) (n1 : Int) (o1 : I64 n1) :
    Calls Try.prog 6 #[v0, .int .i64 n1] w fun e w' => e = .returned (.bool true) ∧ Below w.heap.size w w' := by
  have r0 : RdIntss w v0 x0 := h0
  obtain ⟨a00, c00, rfl⟩ := h0.form
  by_cases g0 : szIntss x0 ≤ 1048576
  · skip
    have q0 : szIntss x0 ≤ 1048576 := by omega
    go_enter Try.func6, Try.ntmps6
    go_wp2_with fail
    refine (szIntssY _ (x0) (1048576) _ (r0.mono (by (repeat (first | with_reducible exact Below.refl _ _ | with_reducible exact hbw | (with_reducible refine Below.setCell ?_ ?_ _; rotate_left; · first | exact Nat.le_refl _ | omega | (simp; done) | (simp; omega)) | (with_reducible refine Below.alloc ?_ ?_ _; rotate_left; · first | exact Nat.le_refl _ | omega | (simp; done) | (simp; omega)) | with_reducible refine below_drewN ?_ _ | with_reducible refine Below.drew ?_)))) o0 (by omega) (by omega) (by omega)).mono ?_
    rintro e w1 ⟨rfl, h1⟩
    have sz1 : w.heap.size ≤ w1.heap.size := h1.size
    have bw1 : Below w.heap.size w w1 := h1
    go_wp2_with fail
    refine (toIntssK _ (x0) _ (r0.mono (by have hbw := bw1; (repeat (first | with_reducible exact Below.refl _ _ | with_reducible exact hbw | (with_reducible refine Below.setCell ?_ ?_ _; rotate_left; · first | exact Nat.le_refl _ | omega | (simp; done) | (simp; omega)) | (with_reducible refine Below.alloc ?_ ?_ _; rotate_left; · first | exact Nat.le_refl _ | omega | (simp; done) | (simp; omega)) | with_reducible refine below_drewN ?_ _ | with_reducible refine Below.drew ?_)))) q0).mono ?_
    rintro e w2 ⟨v2, rfl, ho3, h2⟩
    obtain ⟨a4, c5, rfl⟩ := ho3.form
    have f6 : OwnIntss w1.heap.size w2.heap.size w2 (.slice a4 (x0).length c5) (x0) := ho3
    clear ho3
    have sz2 : w1.heap.size ≤ w2.heap.size := h2.size
    have bw2 : Below w.heap.size w w2 := bw1.trans (h2.mono bw1.size)
    go_wp2_with fail
    refine (specRunsOf_any _ (x0) (n1) _ (OwnIntss.rd f6) o0 q0 o1).mono ?_
    rintro e w3 ⟨rfl, h3⟩
    have sz3 : w2.heap.size ≤ w3.heap.size := h3.size
    have bw3 : Below w.heap.size w w3 := bw2.trans (h3.mono bw2.size)
    have f9 := f6.mono h3
    clear f6
    go_wp2_with fail
    refine (toIntssK _ (x0) _ (r0.mono (by have hbw := bw3; (repeat (first | with_reducible exact Below.refl _ _ | with_reducible exact hbw | (with_reducible refine Below.setCell ?_ ?_ _; rotate_left; · first | exact Nat.le_refl _ | omega | (simp; done) | (simp; omega)) | (with_reducible refine Below.alloc ?_ ?_ _; rotate_left; · first | exact Nat.le_refl _ | omega | (simp; done) | (simp; omega)) | with_reducible refine below_drewN ?_ _ | with_reducible refine Below.drew ?_)))) q0).mono ?_
    rintro e w4 ⟨v10, rfl, ho11, h4⟩
    obtain ⟨a12, c13, rfl⟩ := ho11.form
    have f14 : OwnIntss w3.heap.size w4.heap.size w4 (.slice a12 (x0).length c13) (x0) := ho11
    clear ho11
    have sz4 : w3.heap.size ≤ w4.heap.size := h4.size
    have bw4 : Below w.heap.size w w4 := bw3.trans (h4.mono bw3.size)
    have f16 := f9.mono h4
    clear f9
    go_wp2_with fail
    refine (implRunsOf_any _ (x0) (n1) _ (OwnIntss.rd f14) o0 q0 o1).mono ?_
    rintro e w5 ⟨rfl, h5⟩
    have sz5 : w4.heap.size ≤ w5.heap.size := h5.size
    have bw5 : Below w.heap.size w w5 := bw4.trans (h5.mono bw4.size)
    have f18 := f16.mono h5
    have f19 := f14.mono h5
    clear f16 f14
    go_wp2_with fail
    refine (toIntssK _ (x0) _ (r0.mono (by have hbw := bw5; (repeat (first | with_reducible exact Below.refl _ _ | with_reducible exact hbw | (with_reducible refine Below.setCell ?_ ?_ _; rotate_left; · first | exact Nat.le_refl _ | omega | (simp; done) | (simp; omega)) | (with_reducible refine Below.alloc ?_ ?_ _; rotate_left; · first | exact Nat.le_refl _ | omega | (simp; done) | (simp; omega)) | with_reducible refine below_drewN ?_ _ | with_reducible refine Below.drew ?_)))) q0).mono ?_
    rintro e w6 ⟨v20, rfl, ho21, h6⟩
    obtain ⟨a22, c23, rfl⟩ := ho21.form
    have f24 : OwnIntss w5.heap.size w6.heap.size w6 (.slice a22 (x0).length c23) (x0) := ho21
    clear ho21
    have sz6 : w5.heap.size ≤ w6.heap.size := h6.size
    have bw6 : Below w.heap.size w w6 := bw5.trans (h6.mono bw5.size)
    have f26 := f18.mono h6
    have f27 := f19.mono h6
    clear f18 f19
    go_wp2_with fail
    refine (eqIntssK _ _ (x0) _ (OwnIntss.rd f27) (OwnIntss.rd f24)).mono ?_
    rintro e w7 ⟨rfl, h7⟩
    have sz7 : w6.heap.size ≤ w7.heap.size := h7.size
    have bw7 : Below w.heap.size w w7 := bw6.trans (h7.mono bw6.size)
    have f29 := f26.mono h7
    have f30 := f27.mono h7
    have f31 := f24.mono h7
    clear f26 f27 f24
    go_wp2
    go_ret
    exact ⟨rfl, bw7⟩
  · skip
    go_enter Try.func6, Try.ntmps6
    go_wp2_with fail
    refine (szIntssN _ (x0) (1048576) _ (r0.mono (by (repeat (first | with_reducible exact Below.refl _ _ | with_reducible exact hbw | (with_reducible refine Below.setCell ?_ ?_ _; rotate_left; · first | exact Nat.le_refl _ | omega | (simp; done) | (simp; omega)) | (with_reducible refine Below.alloc ?_ ?_ _; rotate_left; · first | exact Nat.le_refl _ | omega | (simp; done) | (simp; omega)) | with_reducible refine below_drewN ?_ _ | with_reducible refine Below.drew ?_)))) o0 (by omega) (by omega) (by omega)).mono ?_
    rintro e w1 ⟨rfl, h1⟩
    have bw1 : Below w.heap.size w w1 := Below.trans (by (repeat (first | with_reducible exact Below.refl _ _ | with_reducible exact hbw | (with_reducible refine Below.setCell ?_ ?_ _; rotate_left; · first | exact Nat.le_refl _ | omega | (simp; done) | (simp; omega)) | (with_reducible refine Below.alloc ?_ ?_ _; rotate_left; · first | exact Nat.le_refl _ | omega | (simp; done) | (simp; omega)) | with_reducible refine below_drewN ?_ _ | with_reducible refine Below.drew ?_))) (h1.mono (by simp <;> omega))
    go_wp2
    go_ret
    exact ⟨rfl, bw1⟩

end Go.Proofs.Ytadnejajbdipoaa
