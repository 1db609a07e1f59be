/- The law FnExactMethodRows returns true and leaves memory as it was. -/
import Derived.Test.YtgdfecnpkjnhnaaDoorMRowsI
import Derived.Test.YtgdfecnpkjnhnaaDoorMRowsS
set_option linter.unusedSimpArgs false
set_option linter.unnecessarySimpa false
set_option linter.unusedVariables false
set_option maxRecDepth 100000
namespace Go.Proofs.YtgdfecnpkjnhnaaDoor
open Go.RowKit

set_option maxHeartbeats 4000000 in
theorem lawMethodRows (w : World) (s0 : ByteArray) (p0 : s0.size ≤ maxLen) (n1 : Int) (o1 : I64 n1) (ht : MaxL w) :
    Calls Tryd.prog 5 #[.string s0, .int .i64 n1] w fun e w' => e = .returned (.bool true) ∧ Below w.heap.size w w' := by
  unfold maxLen at p0
  by_cases g0 : s0.size ≤ 1048576
  · skip
    have q0 : s0.size ≤ 1048576 := g0
    have hbd := mr_bd s0 n1
    go_enter Tryd.func5, Tryd.ntmps5
    go_wp2_with fail
    refine (specMethodRows_any (s0) (n1) _ q0 o1).mono ?_
    rintro e w1 ⟨v1, rfl, ho2, h1⟩
    obtain ⟨a3, c4, rfl⟩ := ho2.form
    have f5 : OwnIntss w.heap.size w1.heap.size w1 (.slice a3 (mrV (s0) (n1)).length c4) (mrV (s0) (n1)) := ho2
    clear ho2
    have sz1 : w.heap.size ≤ w1.heap.size := h1.size
    have bw1 : Below w.heap.size w w1 := h1
    go_wp2_with fail
    refine (implMethodRows_any (s0) (n1) _ q0 o1 (ht.mono (by have hbw := bw1; (repeat (first | with_reducible exact Below.refl _ _ | with_reducible exact hbw | (with_reducible refine Below.setCell ?_ ?_ _; rotate_left; · first | exact Nat.le_refl _ | omega | (simp; done) | (simp; omega)) | (with_reducible refine Below.alloc ?_ ?_ _; rotate_left; · first | exact Nat.le_refl _ | omega | (simp; done) | (simp; omega)) | with_reducible refine below_drewN ?_ _ | with_reducible refine Below.drew ?_))))).mono ?_
    rintro e w2 ⟨v7, rfl, ho8, h2⟩
    obtain ⟨a9, c10, rfl⟩ := ho8.form
    have f11 : OwnIntss w1.heap.size w2.heap.size w2 (.slice a9 (mrV (s0) (n1)).length c10) (mrV (s0) (n1)) := ho8
    clear ho8
    have sz2 : w1.heap.size ≤ w2.heap.size := h2.size
    have bw2 : Below w.heap.size w w2 := bw1.trans (h2.mono bw1.size)
    have f13 := f5.mono h2
    clear f5
    go_wp2_with fail
    refine (eqIntssK _ _ (mrV (s0) (n1)) _ (OwnIntss.rd f11) (OwnIntss.rd f13)).mono ?_
    rintro e w3 ⟨rfl, h3⟩
    have sz3 : w2.heap.size ≤ w3.heap.size := h3.size
    have bw3 : Below w.heap.size w w3 := bw2.trans (h3.mono bw2.size)
    have f15 := f13.mono h3
    have f16 := f11.mono h3
    clear f13 f11
    go_wp2_with fail
    refine (markIntssK _ _ _ (mrV (s0) (n1)) (1) _ f16 (by omega) (by have := hbd; omega)).mono ?_
    rintro e w4 ⟨rfl, f17, t4⟩
    have sz4 : w3.heap.size ≤ w4.heap.size := t4.size
    have bw4 : Below w.heap.size w w4 := t4.below bw3 (by omega) (by omega)
    have f19 := f15.touch t4 (by omega)
    clear f15
    clear f16
    go_wp2_with fail
    refine (heldIntssK _ _ _ (mrV (s0) (n1)) (1) _ f17 (by omega) (by have := hbd; omega)).mono ?_
    rintro e w5 ⟨rfl, h5⟩
    have sz5 : w4.heap.size ≤ w5.heap.size := h5.size
    have bw5 : Below w.heap.size w w5 := bw4.trans (h5.mono bw4.size)
    have f22 := f19.mono h5
    have f23 := f17.mono h5
    clear f19 f17
    go_wp2_with fail
    refine (implMethodRows_any (s0) (n1) _ q0 o1 (ht.mono (by have hbw := bw5; (repeat (first | with_reducible exact Below.refl _ _ | with_reducible exact hbw | (with_reducible refine Below.setCell ?_ ?_ _; rotate_left; · first | exact Nat.le_refl _ | omega | (simp; done) | (simp; omega)) | (with_reducible refine Below.alloc ?_ ?_ _; rotate_left; · first | exact Nat.le_refl _ | omega | (simp; done) | (simp; omega)) | with_reducible refine below_drewN ?_ _ | with_reducible refine Below.drew ?_))))).mono ?_
    rintro e w6 ⟨v24, rfl, ho25, h6⟩
    obtain ⟨a26, c27, rfl⟩ := ho25.form
    have f28 : OwnIntss w5.heap.size w6.heap.size w6 (.slice a26 (mrV (s0) (n1)).length c27) (mrV (s0) (n1)) := ho25
    clear ho25
    have sz6 : w5.heap.size ≤ w6.heap.size := h6.size
    have bw6 : Below w.heap.size w w6 := bw5.trans (h6.mono bw5.size)
    have f30 := f22.mono h6
    have f31 := f23.mono h6
    clear f22 f23
    go_wp2_with fail
    refine (eqIntssK _ _ (mrV (s0) (n1)) _ (OwnIntss.rd f28) (OwnIntss.rd f30)).mono ?_
    rintro e w7 ⟨rfl, h7⟩
    have sz7 : w6.heap.size ≤ w7.heap.size := h7.size
    have bw7 : Below w.heap.size w w7 := bw6.trans (h7.mono bw6.size)
    have f33 := f30.mono h7
    have f34 := f31.mono h7
    have f35 := f28.mono h7
    clear f30 f31 f28
    go_wp2_with fail
    refine (heldIntssK _ _ _ (mrV (s0) (n1)) (1) _ f34 (by omega) (by have := hbd; omega)).mono ?_
    rintro e w8 ⟨rfl, h8⟩
    have sz8 : w7.heap.size ≤ w8.heap.size := h8.size
    have bw8 : Below w.heap.size w w8 := bw7.trans (h8.mono bw7.size)
    have f37 := f33.mono h8
    have f38 := f34.mono h8
    have f39 := f35.mono h8
    clear f33 f34 f35
    go_wp2
    go_ret
    exact ⟨rfl, bw8⟩
  · skip
    go_enter Tryd.func5, Tryd.ntmps5
    go_wp2
    go_ret
    refine ⟨rfl, ?_⟩
    (repeat (first | with_reducible exact Below.refl _ _ | with_reducible exact hbw | (with_reducible refine Below.setCell ?_ ?_ _; rotate_left; · first | exact Nat.le_refl _ | omega | (simp; done) | (simp; omega)) | (with_reducible refine Below.alloc ?_ ?_ _; rotate_left; · first | exact Nat.le_refl _ | omega | (simp; done) | (simp; omega)) | with_reducible refine below_drewN ?_ _ | with_reducible refine Below.drew ?_))

end Go.Proofs.YtgdfecnpkjnhnaaDoor
