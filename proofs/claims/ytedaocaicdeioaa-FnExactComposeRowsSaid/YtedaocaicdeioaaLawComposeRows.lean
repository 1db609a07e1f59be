/- The law FnExactComposeRows returns true and leaves memory as it was. -/
import Derived.Test.YtedaocaicdeioaaCompI
import Derived.Test.YtedaocaicdeioaaKIntsEq
import Derived.Test.YtedaocaicdeioaaKIntsTo
import Derived.Test.YtedaocaicdeioaaKIntsM
set_option linter.unusedSimpArgs false
set_option linter.unnecessarySimpa false
set_option linter.unusedVariables false
set_option maxRecDepth 100000
namespace Go.Proofs.Ytedaocaicdeioaa
open Go.RowKit

set_option maxHeartbeats 4000000 in
theorem lawComposeRows (w : World) (v0 : Value) (x0 : List Int) (h0 : Ints w v0 x0) (o0 : ∀ x ∈ x0, I64 x) (v1 : Value) (x1 : List Int) (h1 : Ints w v1 x1) (o1 : ∀ x ∈ x1, I64 x) :
    Calls Try.prog 10 #[v0, v1] w fun e w' => e = .returned (.bool true) ∧ Below w.heap.size w w' := by
  have r0 : RdInts w v0 x0 := h0
  obtain ⟨a00, c00, rfl, hca, hcm, _⟩ := id h0
  have m0 : x0.length ≤ maxLen := by omega
  clear hca hcm
  unfold maxLen at m0
  have r1 : RdInts w v1 x1 := h1
  obtain ⟨a10, c10, rfl, hca, hcm, _⟩ := id h1
  have m1 : x1.length ≤ maxLen := by omega
  clear hca hcm
  unfold maxLen at m1
  by_cases g0 : x0.length ≤ 1048576
  · skip
    by_cases g1 : x1.length ≤ 1048576
    · skip
      have q0 : x0.length ≤ 1048576 := g0
      have q1 : x1.length ≤ 1048576 := g1
      have hbd := compV_len x0 x1
      go_enter Try.func10, Try.ntmps10
      go_wp2_with fail
      refine (toIntsK _ (x0) _ (r0.mono (by (repeat (first | with_reducible exact Below.refl _ _ | with_reducible exact hbw | (with_reducible refine Below.setCell ?_ ?_ _; rotate_left; · first | exact Nat.le_refl _ | omega | (simp; done) | (simp; omega)) | (with_reducible refine Below.alloc ?_ ?_ _; rotate_left; · first | exact Nat.le_refl _ | omega | (simp; done) | (simp; omega)) | with_reducible refine below_drewN ?_ _ | with_reducible refine Below.drew ?_)))) q0).mono ?_
      rintro e w1 ⟨v1, rfl, ho2, h1⟩
      obtain ⟨a3, c4, rfl⟩ := ho2.form
      have f5 : OwnInts w.heap.size w1.heap.size w1 (.slice a3 (x0).length c4) (x0) := ho2
      clear ho2
      have sz1 : w.heap.size ≤ w1.heap.size := h1.size
      have bw1 : Below w.heap.size w w1 := h1
      go_wp2_with fail
      refine (toIntsK _ (x1) _ (r1.mono (by have hbw := bw1; (repeat (first | with_reducible exact Below.refl _ _ | with_reducible exact hbw | (with_reducible refine Below.setCell ?_ ?_ _; rotate_left; · first | exact Nat.le_refl _ | omega | (simp; done) | (simp; omega)) | (with_reducible refine Below.alloc ?_ ?_ _; rotate_left; · first | exact Nat.le_refl _ | omega | (simp; done) | (simp; omega)) | with_reducible refine below_drewN ?_ _ | with_reducible refine Below.drew ?_)))) q1).mono ?_
      rintro e w2 ⟨v7, rfl, ho8, h2⟩
      obtain ⟨a9, c10, rfl⟩ := ho8.form
      have f11 : OwnInts w1.heap.size w2.heap.size w2 (.slice a9 (x1).length c10) (x1) := ho8
      clear ho8
      have sz2 : w1.heap.size ≤ w2.heap.size := h2.size
      have bw2 : Below w.heap.size w w2 := bw1.trans (h2.mono bw1.size)
      have f13 := f5.mono h2
      clear f5
      go_wp2_with fail
      refine (specComposeRows_any _ (x0) _ (x1) _ (OwnInts.rd f13) o0 q0 (OwnInts.rd f11) o1 q1).mono ?_
      rintro e w3 ⟨v14, rfl, ho15, h3⟩
      obtain ⟨a16, c17, rfl⟩ := ho15.form
      have f18 : OwnInts w2.heap.size w3.heap.size w3 (.slice a16 (compV (x0) (x1)).length c17) (compV (x0) (x1)) := ho15
      clear ho15
      have sz3 : w2.heap.size ≤ w3.heap.size := h3.size
      have bw3 : Below w.heap.size w w3 := bw2.trans (h3.mono bw2.size)
      have f20 := f13.mono h3
      have f21 := f11.mono h3
      clear f13 f11
      go_wp2_with fail
      refine (toIntsK _ (x0) _ (r0.mono (by have hbw := bw3; (repeat (first | with_reducible exact Below.refl _ _ | with_reducible exact hbw | (with_reducible refine Below.setCell ?_ ?_ _; rotate_left; · first | exact Nat.le_refl _ | omega | (simp; done) | (simp; omega)) | (with_reducible refine Below.alloc ?_ ?_ _; rotate_left; · first | exact Nat.le_refl _ | omega | (simp; done) | (simp; omega)) | with_reducible refine below_drewN ?_ _ | with_reducible refine Below.drew ?_)))) q0).mono ?_
      rintro e w4 ⟨v22, rfl, ho23, h4⟩
      obtain ⟨a24, c25, rfl⟩ := ho23.form
      have f26 : OwnInts w3.heap.size w4.heap.size w4 (.slice a24 (x0).length c25) (x0) := ho23
      clear ho23
      have sz4 : w3.heap.size ≤ w4.heap.size := h4.size
      have bw4 : Below w.heap.size w w4 := bw3.trans (h4.mono bw3.size)
      have f28 := f20.mono h4
      have f29 := f21.mono h4
      have f30 := f18.mono h4
      clear f20 f21 f18
      go_wp2_with fail
      refine (toIntsK _ (x1) _ (r1.mono (by have hbw := bw4; (repeat (first | with_reducible exact Below.refl _ _ | with_reducible exact hbw | (with_reducible refine Below.setCell ?_ ?_ _; rotate_left; · first | exact Nat.le_refl _ | omega | (simp; done) | (simp; omega)) | (with_reducible refine Below.alloc ?_ ?_ _; rotate_left; · first | exact Nat.le_refl _ | omega | (simp; done) | (simp; omega)) | with_reducible refine below_drewN ?_ _ | with_reducible refine Below.drew ?_)))) q1).mono ?_
      rintro e w5 ⟨v31, rfl, ho32, h5⟩
      obtain ⟨a33, c34, rfl⟩ := ho32.form
      have f35 : OwnInts w4.heap.size w5.heap.size w5 (.slice a33 (x1).length c34) (x1) := ho32
      clear ho32
      have sz5 : w4.heap.size ≤ w5.heap.size := h5.size
      have bw5 : Below w.heap.size w w5 := bw4.trans (h5.mono bw4.size)
      have f37 := f28.mono h5
      have f38 := f29.mono h5
      have f39 := f30.mono h5
      have f40 := f26.mono h5
      clear f28 f29 f30 f26
      go_wp2_with fail
      refine (implComposeRows_any _ (x0) _ (x1) _ (OwnInts.rd f40) o0 q0 (OwnInts.rd f35) o1 q1).mono ?_
      rintro e w6 ⟨v41, rfl, ho42, h6⟩
      obtain ⟨a43, c44, rfl⟩ := ho42.form
      have f45 : OwnInts w5.heap.size w6.heap.size w6 (.slice a43 (compV (x0) (x1)).length c44) (compV (x0) (x1)) := ho42
      clear ho42
      have sz6 : w5.heap.size ≤ w6.heap.size := h6.size
      have bw6 : Below w.heap.size w w6 := bw5.trans (h6.mono bw5.size)
      have f47 := f37.mono h6
      have f48 := f38.mono h6
      have f49 := f39.mono h6
      have f50 := f40.mono h6
      have f51 := f35.mono h6
      clear f37 f38 f39 f40 f35
      go_wp2_with fail
      refine (eqIntsK _ _ (compV (x0) (x1)) _ (OwnInts.rd f45) (OwnInts.rd f49)).mono ?_
      rintro e w7 ⟨rfl, h7⟩
      have sz7 : w6.heap.size ≤ w7.heap.size := h7.size
      have bw7 : Below w.heap.size w w7 := bw6.trans (h7.mono bw6.size)
      have f53 := f47.mono h7
      have f54 := f48.mono h7
      have f55 := f49.mono h7
      have f56 := f50.mono h7
      have f57 := f51.mono h7
      have f58 := f45.mono h7
      clear f47 f48 f49 f50 f51 f45
      go_wp2_with fail
      refine (toIntsK _ (x0) _ (r0.mono (by have hbw := bw7; (repeat (first | with_reducible exact Below.refl _ _ | with_reducible exact hbw | (with_reducible refine Below.setCell ?_ ?_ _; rotate_left; · first | exact Nat.le_refl _ | omega | (simp; done) | (simp; omega)) | (with_reducible refine Below.alloc ?_ ?_ _; rotate_left; · first | exact Nat.le_refl _ | omega | (simp; done) | (simp; omega)) | with_reducible refine below_drewN ?_ _ | with_reducible refine Below.drew ?_)))) q0).mono ?_
      rintro e w8 ⟨v59, rfl, ho60, h8⟩
      obtain ⟨a61, c62, rfl⟩ := ho60.form
      have f63 : OwnInts w7.heap.size w8.heap.size w8 (.slice a61 (x0).length c62) (x0) := ho60
      clear ho60
      have sz8 : w7.heap.size ≤ w8.heap.size := h8.size
      have bw8 : Below w.heap.size w w8 := bw7.trans (h8.mono bw7.size)
      have f65 := f53.mono h8
      have f66 := f54.mono h8
      have f67 := f55.mono h8
      have f68 := f56.mono h8
      have f69 := f57.mono h8
      have f70 := f58.mono h8
      clear f53 f54 f55 f56 f57 f58
      go_wp2_with fail
      refine (eqIntsK _ _ (x0) _ (OwnInts.rd f68) (OwnInts.rd f63)).mono ?_
      rintro e w9 ⟨rfl, h9⟩
      have sz9 : w8.heap.size ≤ w9.heap.size := h9.size
      have bw9 : Below w.heap.size w w9 := bw8.trans (h9.mono bw8.size)
      have f72 := f65.mono h9
      have f73 := f66.mono h9
      have f74 := f67.mono h9
      have f75 := f68.mono h9
      have f76 := f69.mono h9
      have f77 := f70.mono h9
      have f78 := f63.mono h9
      clear f65 f66 f67 f68 f69 f70 f63
      go_wp2_with fail
      refine (toIntsK _ (x1) _ (r1.mono (by have hbw := bw9; (repeat (first | with_reducible exact Below.refl _ _ | with_reducible exact hbw | (with_reducible refine Below.setCell ?_ ?_ _; rotate_left; · first | exact Nat.le_refl _ | omega | (simp; done) | (simp; omega)) | (with_reducible refine Below.alloc ?_ ?_ _; rotate_left; · first | exact Nat.le_refl _ | omega | (simp; done) | (simp; omega)) | with_reducible refine below_drewN ?_ _ | with_reducible refine Below.drew ?_)))) q1).mono ?_
      rintro e w10 ⟨v79, rfl, ho80, h10⟩
      obtain ⟨a81, c82, rfl⟩ := ho80.form
      have f83 : OwnInts w9.heap.size w10.heap.size w10 (.slice a81 (x1).length c82) (x1) := ho80
      clear ho80
      have sz10 : w9.heap.size ≤ w10.heap.size := h10.size
      have bw10 : Below w.heap.size w w10 := bw9.trans (h10.mono bw9.size)
      have f85 := f72.mono h10
      have f86 := f73.mono h10
      have f87 := f74.mono h10
      have f88 := f75.mono h10
      have f89 := f76.mono h10
      have f90 := f77.mono h10
      have f91 := f78.mono h10
      clear f72 f73 f74 f75 f76 f77 f78
      go_wp2_with fail
      refine (eqIntsK _ _ (x1) _ (OwnInts.rd f89) (OwnInts.rd f83)).mono ?_
      rintro e w11 ⟨rfl, h11⟩
      have sz11 : w10.heap.size ≤ w11.heap.size := h11.size
      have bw11 : Below w.heap.size w w11 := bw10.trans (h11.mono bw10.size)
      have f93 := f85.mono h11
      have f94 := f86.mono h11
      have f95 := f87.mono h11
      have f96 := f88.mono h11
      have f97 := f89.mono h11
      have f98 := f90.mono h11
      have f99 := f91.mono h11
      have f100 := f83.mono h11
      clear f85 f86 f87 f88 f89 f90 f91 f83
      go_wp2_with fail
      refine (markIntsK _ _ _ (x0) (1) _ f96 (by omega) (by have := q0; omega)).mono ?_
      rintro e w12 ⟨rfl, f101, t12⟩
      have sz12 : w11.heap.size ≤ w12.heap.size := t12.size
      have bw12 : Below w.heap.size w w12 := t12.below bw11 (by omega) (by omega)
      have f103 := f93.touch t12 (by omega)
      have f104 := f94.touch t12 (by omega)
      have f105 := f95.touch t12 (by omega)
      have f107 := f97.touch t12 (by omega)
      have f108 := f98.touch t12 (by omega)
      have f109 := f99.touch t12 (by omega)
      have f110 := f100.touch t12 (by omega)
      clear f93 f94 f95 f97 f98 f99 f100
      clear f96
      go_wp2_with fail
      refine (markIntsK _ _ _ (x1) (1 + ((x0).length : Int)) _ f107 (by omega) (by have := q1; omega)).mono ?_
      rintro e w13 ⟨rfl, f111, t13⟩
      have sz13 : w12.heap.size ≤ w13.heap.size := t13.size
      have bw13 : Below w.heap.size w w13 := t13.below bw12 (by omega) (by omega)
      have f113 := f103.touch t13 (by omega)
      have f114 := f104.touch t13 (by omega)
      have f115 := f105.touch t13 (by omega)
      have f116 := f101.touch t13 (by omega)
      have f118 := f108.touch t13 (by omega)
      have f119 := f109.touch t13 (by omega)
      have f120 := f110.touch t13 (by omega)
      clear f103 f104 f105 f101 f108 f109 f110
      clear f107
      go_wp2_with fail
      refine (eqIntsK _ _ (compV (x0) (x1)) _ (OwnInts.rd f118) (OwnInts.rd f115)).mono ?_
      rintro e w14 ⟨rfl, h14⟩
      have sz14 : w13.heap.size ≤ w14.heap.size := h14.size
      have bw14 : Below w.heap.size w w14 := bw13.trans (h14.mono bw13.size)
      have f122 := f113.mono h14
      have f123 := f114.mono h14
      have f124 := f115.mono h14
      have f125 := f116.mono h14
      have f126 := f111.mono h14
      have f127 := f118.mono h14
      have f128 := f119.mono h14
      have f129 := f120.mono h14
      clear f113 f114 f115 f116 f111 f118 f119 f120
      go_wp2_with fail
      refine (markIntsK _ _ _ (compV (x0) (x1)) (1) _ f127 (by omega) (by have := hbd; omega)).mono ?_
      rintro e w15 ⟨rfl, f130, t15⟩
      have sz15 : w14.heap.size ≤ w15.heap.size := t15.size
      have bw15 : Below w.heap.size w w15 := t15.below bw14 (by omega) (by omega)
      have f132 := f122.touch t15 (by omega)
      have f133 := f123.touch t15 (by omega)
      have f134 := f124.touch t15 (by omega)
      have f135 := f125.touch t15 (by omega)
      have f136 := f126.touch t15 (by omega)
      have f138 := f128.touch t15 (by omega)
      have f139 := f129.touch t15 (by omega)
      clear f122 f123 f124 f125 f126 f128 f129
      clear f127
      go_wp2_with fail
      refine (heldIntsK _ _ _ (compV (x0) (x1)) (1) _ f130 (by omega) (by have := hbd; omega)).mono ?_
      rintro e w16 ⟨rfl, h16⟩
      have sz16 : w15.heap.size ≤ w16.heap.size := h16.size
      have bw16 : Below w.heap.size w w16 := bw15.trans (h16.mono bw15.size)
      have f141 := f132.mono h16
      have f142 := f133.mono h16
      have f143 := f134.mono h16
      have f144 := f135.mono h16
      have f145 := f136.mono h16
      have f146 := f130.mono h16
      have f147 := f138.mono h16
      have f148 := f139.mono h16
      clear f132 f133 f134 f135 f136 f130 f138 f139
      go_wp2_with fail
      refine (toIntsK _ (x0) _ (r0.mono (by have hbw := bw16; (repeat (first | with_reducible exact Below.refl _ _ | with_reducible exact hbw | (with_reducible refine Below.setCell ?_ ?_ _; rotate_left; · first | exact Nat.le_refl _ | omega | (simp; done) | (simp; omega)) | (with_reducible refine Below.alloc ?_ ?_ _; rotate_left; · first | exact Nat.le_refl _ | omega | (simp; done) | (simp; omega)) | with_reducible refine below_drewN ?_ _ | with_reducible refine Below.drew ?_)))) q0).mono ?_
      rintro e w17 ⟨v149, rfl, ho150, h17⟩
      obtain ⟨a151, c152, rfl⟩ := ho150.form
      have f153 : OwnInts w16.heap.size w17.heap.size w17 (.slice a151 (x0).length c152) (x0) := ho150
      clear ho150
      have sz17 : w16.heap.size ≤ w17.heap.size := h17.size
      have bw17 : Below w.heap.size w w17 := bw16.trans (h17.mono bw16.size)
      have f155 := f141.mono h17
      have f156 := f142.mono h17
      have f157 := f143.mono h17
      have f158 := f144.mono h17
      have f159 := f145.mono h17
      have f160 := f146.mono h17
      have f161 := f147.mono h17
      have f162 := f148.mono h17
      clear f141 f142 f143 f144 f145 f146 f147 f148
      go_wp2_with fail
      refine (toIntsK _ (x1) _ (r1.mono (by have hbw := bw17; (repeat (first | with_reducible exact Below.refl _ _ | with_reducible exact hbw | (with_reducible refine Below.setCell ?_ ?_ _; rotate_left; · first | exact Nat.le_refl _ | omega | (simp; done) | (simp; omega)) | (with_reducible refine Below.alloc ?_ ?_ _; rotate_left; · first | exact Nat.le_refl _ | omega | (simp; done) | (simp; omega)) | with_reducible refine below_drewN ?_ _ | with_reducible refine Below.drew ?_)))) q1).mono ?_
      rintro e w18 ⟨v163, rfl, ho164, h18⟩
      obtain ⟨a165, c166, rfl⟩ := ho164.form
      have f167 : OwnInts w17.heap.size w18.heap.size w18 (.slice a165 (x1).length c166) (x1) := ho164
      clear ho164
      have sz18 : w17.heap.size ≤ w18.heap.size := h18.size
      have bw18 : Below w.heap.size w w18 := bw17.trans (h18.mono bw17.size)
      have f169 := f155.mono h18
      have f170 := f156.mono h18
      have f171 := f157.mono h18
      have f172 := f158.mono h18
      have f173 := f159.mono h18
      have f174 := f160.mono h18
      have f175 := f161.mono h18
      have f176 := f162.mono h18
      have f177 := f153.mono h18
      clear f155 f156 f157 f158 f159 f160 f161 f162 f153
      go_wp2_with fail
      refine (implComposeRows_any _ (x0) _ (x1) _ (OwnInts.rd f177) o0 q0 (OwnInts.rd f167) o1 q1).mono ?_
      rintro e w19 ⟨v178, rfl, ho179, h19⟩
      obtain ⟨a180, c181, rfl⟩ := ho179.form
      have f182 : OwnInts w18.heap.size w19.heap.size w19 (.slice a180 (compV (x0) (x1)).length c181) (compV (x0) (x1)) := ho179
      clear ho179
      have sz19 : w18.heap.size ≤ w19.heap.size := h19.size
      have bw19 : Below w.heap.size w w19 := bw18.trans (h19.mono bw18.size)
      have f184 := f169.mono h19
      have f185 := f170.mono h19
      have f186 := f171.mono h19
      have f187 := f172.mono h19
      have f188 := f173.mono h19
      have f189 := f174.mono h19
      have f190 := f175.mono h19
      have f191 := f176.mono h19
      have f192 := f177.mono h19
      have f193 := f167.mono h19
      clear f169 f170 f171 f172 f173 f174 f175 f176 f177 f167
      go_wp2_with fail
      refine (eqIntsK _ _ (compV (x0) (x1)) _ (OwnInts.rd f182) (OwnInts.rd f186)).mono ?_
      rintro e w20 ⟨rfl, h20⟩
      have sz20 : w19.heap.size ≤ w20.heap.size := h20.size
      have bw20 : Below w.heap.size w w20 := bw19.trans (h20.mono bw19.size)
      have f195 := f184.mono h20
      have f196 := f185.mono h20
      have f197 := f186.mono h20
      have f198 := f187.mono h20
      have f199 := f188.mono h20
      have f200 := f189.mono h20
      have f201 := f190.mono h20
      have f202 := f191.mono h20
      have f203 := f192.mono h20
      have f204 := f193.mono h20
      have f205 := f182.mono h20
      clear f184 f185 f186 f187 f188 f189 f190 f191 f192 f193 f182
      go_wp2_with fail
      refine (heldIntsK _ _ _ (compV (x0) (x1)) (1) _ f200 (by omega) (by have := hbd; omega)).mono ?_
      rintro e w21 ⟨rfl, h21⟩
      have sz21 : w20.heap.size ≤ w21.heap.size := h21.size
      have bw21 : Below w.heap.size w w21 := bw20.trans (h21.mono bw20.size)
      have f207 := f195.mono h21
      have f208 := f196.mono h21
      have f209 := f197.mono h21
      have f210 := f198.mono h21
      have f211 := f199.mono h21
      have f212 := f200.mono h21
      have f213 := f201.mono h21
      have f214 := f202.mono h21
      have f215 := f203.mono h21
      have f216 := f204.mono h21
      have f217 := f205.mono h21
      clear f195 f196 f197 f198 f199 f200 f201 f202 f203 f204 f205
      go_wp2
      go_ret
      exact ⟨rfl, bw21⟩
    · skip
      go_enter Try.func10, Try.ntmps10
      go_wp2
      go_ret
      refine ⟨rfl, ?_⟩
      (repeat (first | with_reducible exact Below.refl _ _ | with_reducible exact hbw | (with_reducible refine Below.setCell ?_ ?_ _; rotate_left; · first | exact Nat.le_refl _ | omega | (simp; done) | (simp; omega)) | (with_reducible refine Below.alloc ?_ ?_ _; rotate_left; · first | exact Nat.le_refl _ | omega | (simp; done) | (simp; omega)) | with_reducible refine below_drewN ?_ _ | with_reducible refine Below.drew ?_))
  · skip
    go_enter Try.func10, Try.ntmps10
    go_wp2
    go_ret
    refine ⟨rfl, ?_⟩
    (repeat (first | with_reducible exact Below.refl _ _ | with_reducible exact hbw | (with_reducible refine Below.setCell ?_ ?_ _; rotate_left; · first | exact Nat.le_refl _ | omega | (simp; done) | (simp; omega)) | (with_reducible refine Below.alloc ?_ ?_ _; rotate_left; · first | exact Nat.le_refl _ | omega | (simp; done) | (simp; omega)) | with_reducible refine below_drewN ?_ _ | with_reducible refine Below.drew ?_))

end Go.Proofs.Ytedaocaicdeioaa
