/- The law FnExactEvenWeights returns true and leaves memory as it was. -/
import Derived.Test.YtjmapbgbmgaljaaEvenI
import Derived.Test.YtjmapbgbmgaljaaKActsM
set_option linter.unusedSimpArgs false
set_option linter.unnecessarySimpa false
set_option linter.unusedVariables false
set_option maxRecDepth 100000
namespace Go.Proofs.Ytjmapbgbmgaljaa
open Go.RowKit

set_option maxHeartbeats 4000000 in
theorem lawEvenWeights (w : World) (v0 : Value) (x0 : List ActD) (h0 : RdActs w v0 x0) (o0 : okActs x0) (n1 : Int) (o1 : I64 n1) :
    Calls Try.prog 14 #[v0, .int .i64 n1] w fun e w' => e = .returned (.bool true) ∧ Below w.heap.size w w' := by
  have r0 : RdActs w v0 x0 := h0
  obtain ⟨a00, c00, rfl⟩ := h0.form
  by_cases g0 : szActs x0 ≤ 1048576
  · skip
    have q0 : szActs x0 ≤ 1048576 := by omega
    have hbd := ev_bd x0 n1 (by omega)
    go_enter Try.func14, Try.ntmps14
    go_wp2_with fail
    refine (szActsY _ (x0) (1048576) _ (r0.mono (by (repeat (first | with_reducible exact Below.refl _ _ | with_reducible exact hbw | (with_reducible refine Below.setCell ?_ ?_ _; rotate_left; · first | exact Nat.le_refl _ | omega | (simp; done) | (simp; omega)) | (with_reducible refine Below.alloc ?_ ?_ _; rotate_left; · first | exact Nat.le_refl _ | omega | (simp; done) | (simp; omega)) | with_reducible refine below_drewN ?_ _ | with_reducible refine Below.drew ?_)))) o0 (by omega) (by omega) (by omega)).mono ?_
    rintro e w1 ⟨rfl, h1⟩
    have sz1 : w.heap.size ≤ w1.heap.size := h1.size
    have bw1 : Below w.heap.size w w1 := h1
    go_wp2_with fail
    refine (toActsK _ (x0) _ (r0.mono (by have hbw := bw1; (repeat (first | with_reducible exact Below.refl _ _ | with_reducible exact hbw | (with_reducible refine Below.setCell ?_ ?_ _; rotate_left; · first | exact Nat.le_refl _ | omega | (simp; done) | (simp; omega)) | (with_reducible refine Below.alloc ?_ ?_ _; rotate_left; · first | exact Nat.le_refl _ | omega | (simp; done) | (simp; omega)) | with_reducible refine below_drewN ?_ _ | with_reducible refine Below.drew ?_)))) q0).mono ?_
    rintro e w2 ⟨v2, rfl, ho3, h2⟩
    obtain ⟨a4, c5, rfl⟩ := ho3.form
    have f6 : OwnActs w1.heap.size w2.heap.size w2 (.slice a4 (x0).length c5) (x0) := ho3
    clear ho3
    have sz2 : w1.heap.size ≤ w2.heap.size := h2.size
    have bw2 : Below w.heap.size w w2 := bw1.trans (h2.mono bw1.size)
    go_wp2_with fail
    refine (specEvenWeights_any _ (x0) (n1) _ (OwnActs.rd f6) o0 q0 o1).mono ?_
    rintro e w3 ⟨v8, rfl, ho9, h3⟩
    obtain ⟨a10, c11, rfl⟩ := ho9.form
    have f12 : OwnActs w2.heap.size w3.heap.size w3 (.slice a10 (evV (x0) (n1)).length c11) (evV (x0) (n1)) := ho9
    clear ho9
    have sz3 : w2.heap.size ≤ w3.heap.size := h3.size
    have bw3 : Below w.heap.size w w3 := bw2.trans (h3.mono bw2.size)
    have f14 := f6.mono h3
    clear f6
    go_wp2_with fail
    refine (toActsK _ (x0) _ (r0.mono (by have hbw := bw3; (repeat (first | with_reducible exact Below.refl _ _ | with_reducible exact hbw | (with_reducible refine Below.setCell ?_ ?_ _; rotate_left; · first | exact Nat.le_refl _ | omega | (simp; done) | (simp; omega)) | (with_reducible refine Below.alloc ?_ ?_ _; rotate_left; · first | exact Nat.le_refl _ | omega | (simp; done) | (simp; omega)) | with_reducible refine below_drewN ?_ _ | with_reducible refine Below.drew ?_)))) q0).mono ?_
    rintro e w4 ⟨v15, rfl, ho16, h4⟩
    obtain ⟨a17, c18, rfl⟩ := ho16.form
    have f19 : OwnActs w3.heap.size w4.heap.size w4 (.slice a17 (x0).length c18) (x0) := ho16
    clear ho16
    have sz4 : w3.heap.size ≤ w4.heap.size := h4.size
    have bw4 : Below w.heap.size w w4 := bw3.trans (h4.mono bw3.size)
    have f21 := f14.mono h4
    have f22 := f12.mono h4
    clear f14 f12
    go_wp2_with fail
    refine (implEvenWeights_any _ (x0) (n1) _ (OwnActs.rd f19) o0 q0 o1).mono ?_
    rintro e w5 ⟨v23, rfl, ho24, h5⟩
    obtain ⟨a25, c26, rfl⟩ := ho24.form
    have f27 : OwnActs w4.heap.size w5.heap.size w5 (.slice a25 (evV (x0) (n1)).length c26) (evV (x0) (n1)) := ho24
    clear ho24
    have sz5 : w4.heap.size ≤ w5.heap.size := h5.size
    have bw5 : Below w.heap.size w w5 := bw4.trans (h5.mono bw4.size)
    have f29 := f21.mono h5
    have f30 := f22.mono h5
    have f31 := f19.mono h5
    clear f21 f22 f19
    go_wp2_with fail
    refine (eqActsK _ _ (evV (x0) (n1)) _ (OwnActs.rd f27) (OwnActs.rd f30)).mono ?_
    rintro e w6 ⟨rfl, h6⟩
    have sz6 : w5.heap.size ≤ w6.heap.size := h6.size
    have bw6 : Below w.heap.size w w6 := bw5.trans (h6.mono bw5.size)
    have f33 := f29.mono h6
    have f34 := f30.mono h6
    have f35 := f31.mono h6
    have f36 := f27.mono h6
    clear f29 f30 f31 f27
    go_wp2_with fail
    refine (toActsK _ (x0) _ (r0.mono (by have hbw := bw6; (repeat (first | with_reducible exact Below.refl _ _ | with_reducible exact hbw | (with_reducible refine Below.setCell ?_ ?_ _; rotate_left; · first | exact Nat.le_refl _ | omega | (simp; done) | (simp; omega)) | (with_reducible refine Below.alloc ?_ ?_ _; rotate_left; · first | exact Nat.le_refl _ | omega | (simp; done) | (simp; omega)) | with_reducible refine below_drewN ?_ _ | with_reducible refine Below.drew ?_)))) q0).mono ?_
    rintro e w7 ⟨v37, rfl, ho38, h7⟩
    obtain ⟨a39, c40, rfl⟩ := ho38.form
    have f41 : OwnActs w6.heap.size w7.heap.size w7 (.slice a39 (x0).length c40) (x0) := ho38
    clear ho38
    have sz7 : w6.heap.size ≤ w7.heap.size := h7.size
    have bw7 : Below w.heap.size w w7 := bw6.trans (h7.mono bw6.size)
    have f43 := f33.mono h7
    have f44 := f34.mono h7
    have f45 := f35.mono h7
    have f46 := f36.mono h7
    clear f33 f34 f35 f36
    go_wp2_with fail
    refine (eqActsK _ _ (x0) _ (OwnActs.rd f45) (OwnActs.rd f41)).mono ?_
    rintro e w8 ⟨rfl, h8⟩
    have sz8 : w7.heap.size ≤ w8.heap.size := h8.size
    have bw8 : Below w.heap.size w w8 := bw7.trans (h8.mono bw7.size)
    have f48 := f43.mono h8
    have f49 := f44.mono h8
    have f50 := f45.mono h8
    have f51 := f46.mono h8
    have f52 := f41.mono h8
    clear f43 f44 f45 f46 f41
    go_wp2_with fail
    refine (markActsK _ _ _ (x0) (1) _ f50 (by omega) (by have := (sizeActs_bd q0); omega)).mono ?_
    rintro e w9 ⟨rfl, f53, t9⟩
    have sz9 : w8.heap.size ≤ w9.heap.size := t9.size
    have bw9 : Below w.heap.size w w9 := t9.below bw8 (by omega) (by omega)
    have f55 := f48.touch t9 (by omega)
    have f56 := f49.touch t9 (by omega)
    have f58 := f51.touch t9 (by omega)
    have f59 := f52.touch t9 (by omega)
    clear f48 f49 f51 f52
    clear f50
    go_wp2_with fail
    refine (eqActsK _ _ (evV (x0) (n1)) _ (OwnActs.rd f58) (OwnActs.rd f56)).mono ?_
    rintro e w10 ⟨rfl, h10⟩
    have sz10 : w9.heap.size ≤ w10.heap.size := h10.size
    have bw10 : Below w.heap.size w w10 := bw9.trans (h10.mono bw9.size)
    have f61 := f55.mono h10
    have f62 := f56.mono h10
    have f63 := f53.mono h10
    have f64 := f58.mono h10
    have f65 := f59.mono h10
    clear f55 f56 f53 f58 f59
    go_wp2_with fail
    refine (markActsK _ _ _ (evV (x0) (n1)) (1) _ f64 (by omega) (by have := hbd; omega)).mono ?_
    rintro e w11 ⟨rfl, f66, t11⟩
    have sz11 : w10.heap.size ≤ w11.heap.size := t11.size
    have bw11 : Below w.heap.size w w11 := t11.below bw10 (by omega) (by omega)
    have f68 := f61.touch t11 (by omega)
    have f69 := f62.touch t11 (by omega)
    have f70 := f63.touch t11 (by omega)
    have f72 := f65.touch t11 (by omega)
    clear f61 f62 f63 f65
    clear f64
    go_wp2_with fail
    refine (heldActsK _ _ _ (evV (x0) (n1)) (1) _ f66 (by omega) (by have := hbd; omega)).mono ?_
    rintro e w12 ⟨rfl, h12⟩
    have sz12 : w11.heap.size ≤ w12.heap.size := h12.size
    have bw12 : Below w.heap.size w w12 := bw11.trans (h12.mono bw11.size)
    have f74 := f68.mono h12
    have f75 := f69.mono h12
    have f76 := f70.mono h12
    have f77 := f66.mono h12
    have f78 := f72.mono h12
    clear f68 f69 f70 f66 f72
    go_wp2_with fail
    refine (toActsK _ (x0) _ (r0.mono (by have hbw := bw12; (repeat (first | with_reducible exact Below.refl _ _ | with_reducible exact hbw | (with_reducible refine Below.setCell ?_ ?_ _; rotate_left; · first | exact Nat.le_refl _ | omega | (simp; done) | (simp; omega)) | (with_reducible refine Below.alloc ?_ ?_ _; rotate_left; · first | exact Nat.le_refl _ | omega | (simp; done) | (simp; omega)) | with_reducible refine below_drewN ?_ _ | with_reducible refine Below.drew ?_)))) q0).mono ?_
    rintro e w13 ⟨v79, rfl, ho80, h13⟩
    obtain ⟨a81, c82, rfl⟩ := ho80.form
    have f83 : OwnActs w12.heap.size w13.heap.size w13 (.slice a81 (x0).length c82) (x0) := ho80
    clear ho80
    have sz13 : w12.heap.size ≤ w13.heap.size := h13.size
    have bw13 : Below w.heap.size w w13 := bw12.trans (h13.mono bw12.size)
    have f85 := f74.mono h13
    have f86 := f75.mono h13
    have f87 := f76.mono h13
    have f88 := f77.mono h13
    have f89 := f78.mono h13
    clear f74 f75 f76 f77 f78
    go_wp2_with fail
    refine (implEvenWeights_any _ (x0) (n1) _ (OwnActs.rd f83) o0 q0 o1).mono ?_
    rintro e w14 ⟨v90, rfl, ho91, h14⟩
    obtain ⟨a92, c93, rfl⟩ := ho91.form
    have f94 : OwnActs w13.heap.size w14.heap.size w14 (.slice a92 (evV (x0) (n1)).length c93) (evV (x0) (n1)) := ho91
    clear ho91
    have sz14 : w13.heap.size ≤ w14.heap.size := h14.size
    have bw14 : Below w.heap.size w w14 := bw13.trans (h14.mono bw13.size)
    have f96 := f85.mono h14
    have f97 := f86.mono h14
    have f98 := f87.mono h14
    have f99 := f88.mono h14
    have f100 := f89.mono h14
    have f101 := f83.mono h14
    clear f85 f86 f87 f88 f89 f83
    go_wp2_with fail
    refine (eqActsK _ _ (evV (x0) (n1)) _ (OwnActs.rd f94) (OwnActs.rd f97)).mono ?_
    rintro e w15 ⟨rfl, h15⟩
    have sz15 : w14.heap.size ≤ w15.heap.size := h15.size
    have bw15 : Below w.heap.size w w15 := bw14.trans (h15.mono bw14.size)
    have f103 := f96.mono h15
    have f104 := f97.mono h15
    have f105 := f98.mono h15
    have f106 := f99.mono h15
    have f107 := f100.mono h15
    have f108 := f101.mono h15
    have f109 := f94.mono h15
    clear f96 f97 f98 f99 f100 f101 f94
    go_wp2_with fail
    refine (heldActsK _ _ _ (evV (x0) (n1)) (1) _ f106 (by omega) (by have := hbd; omega)).mono ?_
    rintro e w16 ⟨rfl, h16⟩
    have sz16 : w15.heap.size ≤ w16.heap.size := h16.size
    have bw16 : Below w.heap.size w w16 := bw15.trans (h16.mono bw15.size)
    have f111 := f103.mono h16
    have f112 := f104.mono h16
    have f113 := f105.mono h16
    have f114 := f106.mono h16
    have f115 := f107.mono h16
    have f116 := f108.mono h16
    have f117 := f109.mono h16
    clear f103 f104 f105 f106 f107 f108 f109
    go_wp2
    go_ret
    exact ⟨rfl, bw16⟩
  · skip
    go_enter Try.func14, Try.ntmps14
    go_wp2_with fail
    refine (szActsN _ (x0) (1048576) _ (r0.mono (by (repeat (first | with_reducible exact Below.refl _ _ | with_reducible exact hbw | (with_reducible refine Below.setCell ?_ ?_ _; rotate_left; · first | exact Nat.le_refl _ | omega | (simp; done) | (simp; omega)) | (with_reducible refine Below.alloc ?_ ?_ _; rotate_left; · first | exact Nat.le_refl _ | omega | (simp; done) | (simp; omega)) | with_reducible refine below_drewN ?_ _ | with_reducible refine Below.drew ?_)))) o0 (by omega) (by omega) (by omega)).mono ?_
    rintro e w1 ⟨rfl, h1⟩
    have bw1 : Below w.heap.size w w1 := Below.trans (by (repeat (first | with_reducible exact Below.refl _ _ | with_reducible exact hbw | (with_reducible refine Below.setCell ?_ ?_ _; rotate_left; · first | exact Nat.le_refl _ | omega | (simp; done) | (simp; omega)) | (with_reducible refine Below.alloc ?_ ?_ _; rotate_left; · first | exact Nat.le_refl _ | omega | (simp; done) | (simp; omega)) | with_reducible refine below_drewN ?_ _ | with_reducible refine Below.drew ?_))) (h1.mono (by simp <;> omega))
    go_wp2
    go_ret
    exact ⟨rfl, bw1⟩

end Go.Proofs.Ytjmapbgbmgaljaa
