/- The law FnExactFewestBays returns true and leaves memory as it was. -/
import Derived.Test.YteaijhmgfddjiaaBayG
import Derived.Test.YteaijhmgfddjiaaKIntsEq
import Derived.Test.YteaijhmgfddjiaaKIntsM
import Derived.Test.YteaijhmgfddjiaaBayD
import Derived.Test.YteaijhmgfddjiaaCasD
set_option linter.unusedSimpArgs false
set_option linter.unnecessarySimpa false
set_option linter.unusedVariables false
set_option maxRecDepth 100000
namespace Go.Proofs.Yteaijhmgfddjiaa
open Go.RowKit

set_option maxHeartbeats 4000000 in
theorem lawFewestBays (w : World) (v0 : Value) (x0 : List BayD) (h0 : RdBayDs w v0 x0) (o0 : okBayDs x0) (v1 : Value) (x1 : List CasD) (h1 : RdCasDs w v1 x1) (o1 : okCasDs x1) (n2 : Int) (o2 : I64 n2) :
    Calls Try.prog 5 #[v0, v1, .int .i64 n2] w fun e w' => e = .returned (.bool true) ∧ Below w.heap.size w w' := by
  have r0 : RdBayDs w v0 x0 := h0
  obtain ⟨a00, c00, rfl⟩ := h0.form
  have r1 : RdCasDs w v1 x1 := h1
  obtain ⟨a10, c10, rfl⟩ := h1.form
  by_cases g0 : szBayDs x0 ≤ 1048576
  · skip
    by_cases g1 : szBayDs x0 + szCasDs x1 ≤ 1048576
    · skip
      have q0 : szBayDs x0 ≤ 1048576 := by omega
      have q1 : szCasDs x1 ≤ 1048576 := by omega
      have zb0 := sizeBayDs_bd q0
      have zb1 := sizeCasDs_bd q1
      have hbd := fwV_len (x0 := x0) (x1 := x1) (n := n2)
      go_enter Try.func5, Try.ntmps5
      go_wp2_with fail
      refine (szBayDsY _ (x0) (1048576) _ (r0.mono (by (repeat (first | with_reducible exact Below.refl _ _ | with_reducible exact hbw | (with_reducible refine Below.setCell ?_ ?_ _; rotate_left; · first | exact Nat.le_refl _ | omega | (simp; done) | (simp; omega)) | (with_reducible refine Below.alloc ?_ ?_ _; rotate_left; · first | exact Nat.le_refl _ | omega | (simp; done) | (simp; omega)) | with_reducible refine below_drewN ?_ _ | with_reducible refine Below.drew ?_)))) o0 (by omega) (by omega) (by omega)).mono ?_
      rintro e w1 ⟨rfl, h1⟩
      have sz1 : w.heap.size ≤ w1.heap.size := h1.size
      have bw1 : Below w.heap.size w w1 := h1
      go_wp2_with fail
      refine (szCasDsY _ (x1) (1048576 - (szBayDs (x0) : Int)) _ (r1.mono (by have hbw := bw1; (repeat (first | with_reducible exact Below.refl _ _ | with_reducible exact hbw | (with_reducible refine Below.setCell ?_ ?_ _; rotate_left; · first | exact Nat.le_refl _ | omega | (simp; done) | (simp; omega)) | (with_reducible refine Below.alloc ?_ ?_ _; rotate_left; · first | exact Nat.le_refl _ | omega | (simp; done) | (simp; omega)) | with_reducible refine below_drewN ?_ _ | with_reducible refine Below.drew ?_)))) o1 (by omega) (by omega) (by omega)).mono ?_
      rintro e w2 ⟨rfl, h2⟩
      have sz2 : w1.heap.size ≤ w2.heap.size := h2.size
      have bw2 : Below w.heap.size w w2 := bw1.trans (h2.mono bw1.size)
      go_wp2_with fail
      refine (toBayDsK _ (x0) _ (r0.mono (by have hbw := bw2; (repeat (first | with_reducible exact Below.refl _ _ | with_reducible exact hbw | (with_reducible refine Below.setCell ?_ ?_ _; rotate_left; · first | exact Nat.le_refl _ | omega | (simp; done) | (simp; omega)) | (with_reducible refine Below.alloc ?_ ?_ _; rotate_left; · first | exact Nat.le_refl _ | omega | (simp; done) | (simp; omega)) | with_reducible refine below_drewN ?_ _ | with_reducible refine Below.drew ?_)))) q0).mono ?_
      rintro e w3 ⟨v3, rfl, ho4, h3⟩
      obtain ⟨a5, c6, rfl⟩ := ho4.form
      have f7 : OwnBayDs w2.heap.size w3.heap.size w3 (.slice a5 (x0).length c6) (x0) := ho4
      clear ho4
      have sz3 : w2.heap.size ≤ w3.heap.size := h3.size
      have bw3 : Below w.heap.size w w3 := bw2.trans (h3.mono bw2.size)
      go_wp2_with fail
      refine (toCasDsK _ (x1) _ (r1.mono (by have hbw := bw3; (repeat (first | with_reducible exact Below.refl _ _ | with_reducible exact hbw | (with_reducible refine Below.setCell ?_ ?_ _; rotate_left; · first | exact Nat.le_refl _ | omega | (simp; done) | (simp; omega)) | (with_reducible refine Below.alloc ?_ ?_ _; rotate_left; · first | exact Nat.le_refl _ | omega | (simp; done) | (simp; omega)) | with_reducible refine below_drewN ?_ _ | with_reducible refine Below.drew ?_)))) q1).mono ?_
      rintro e w4 ⟨v9, rfl, ho10, h4⟩
      obtain ⟨a11, c12, rfl⟩ := ho10.form
      have f13 : OwnCasDs w3.heap.size w4.heap.size w4 (.slice a11 (x1).length c12) (x1) := ho10
      clear ho10
      have sz4 : w3.heap.size ≤ w4.heap.size := h4.size
      have bw4 : Below w.heap.size w w4 := bw3.trans (h4.mono bw3.size)
      have f15 := f7.mono h4
      clear f7
      go_wp2_with fail
      refine (specFewestBays_any _ (x0) _ (x1) (n2) _ (OwnBayDs.rd f15) o0 q0 (OwnCasDs.rd f13) o1 q1 o2).mono ?_
      rintro e w5 ⟨v16, rfl, ho17, h5⟩
      obtain ⟨a18, c19, rfl⟩ := ho17.form
      have f20 : OwnInts w4.heap.size w5.heap.size w5 (.slice a18 (fwV (x0) (x1) (n2)).length c19) (fwV (x0) (x1) (n2)) := ho17
      clear ho17
      have sz5 : w4.heap.size ≤ w5.heap.size := h5.size
      have bw5 : Below w.heap.size w w5 := bw4.trans (h5.mono bw4.size)
      have f22 := f15.mono h5
      have f23 := f13.mono h5
      clear f15 f13
      go_wp2_with fail
      refine (toBayDsK _ (x0) _ (r0.mono (by have hbw := bw5; (repeat (first | with_reducible exact Below.refl _ _ | with_reducible exact hbw | (with_reducible refine Below.setCell ?_ ?_ _; rotate_left; · first | exact Nat.le_refl _ | omega | (simp; done) | (simp; omega)) | (with_reducible refine Below.alloc ?_ ?_ _; rotate_left; · first | exact Nat.le_refl _ | omega | (simp; done) | (simp; omega)) | with_reducible refine below_drewN ?_ _ | with_reducible refine Below.drew ?_)))) q0).mono ?_
      rintro e w6 ⟨v24, rfl, ho25, h6⟩
      obtain ⟨a26, c27, rfl⟩ := ho25.form
      have f28 : OwnBayDs w5.heap.size w6.heap.size w6 (.slice a26 (x0).length c27) (x0) := ho25
      clear ho25
      have sz6 : w5.heap.size ≤ w6.heap.size := h6.size
      have bw6 : Below w.heap.size w w6 := bw5.trans (h6.mono bw5.size)
      have f30 := f22.mono h6
      have f31 := f23.mono h6
      have f32 := f20.mono h6
      clear f22 f23 f20
      go_wp2_with fail
      refine (toCasDsK _ (x1) _ (r1.mono (by have hbw := bw6; (repeat (first | with_reducible exact Below.refl _ _ | with_reducible exact hbw | (with_reducible refine Below.setCell ?_ ?_ _; rotate_left; · first | exact Nat.le_refl _ | omega | (simp; done) | (simp; omega)) | (with_reducible refine Below.alloc ?_ ?_ _; rotate_left; · first | exact Nat.le_refl _ | omega | (simp; done) | (simp; omega)) | with_reducible refine below_drewN ?_ _ | with_reducible refine Below.drew ?_)))) q1).mono ?_
      rintro e w7 ⟨v33, rfl, ho34, h7⟩
      obtain ⟨a35, c36, rfl⟩ := ho34.form
      have f37 : OwnCasDs w6.heap.size w7.heap.size w7 (.slice a35 (x1).length c36) (x1) := ho34
      clear ho34
      have sz7 : w6.heap.size ≤ w7.heap.size := h7.size
      have bw7 : Below w.heap.size w w7 := bw6.trans (h7.mono bw6.size)
      have f39 := f30.mono h7
      have f40 := f31.mono h7
      have f41 := f32.mono h7
      have f42 := f28.mono h7
      clear f30 f31 f32 f28
      go_wp2_with fail
      refine (implFewestBays_any _ (x0) _ (x1) (n2) _ (OwnBayDs.rd f42) o0 q0 (OwnCasDs.rd f37) o1 q1 o2).mono ?_
      rintro e w8 ⟨v43, rfl, ho44, h8⟩
      obtain ⟨a45, c46, rfl⟩ := ho44.form
      have f47 : OwnInts w7.heap.size w8.heap.size w8 (.slice a45 (fwV (x0) (x1) (n2)).length c46) (fwV (x0) (x1) (n2)) := ho44
      clear ho44
      have sz8 : w7.heap.size ≤ w8.heap.size := h8.size
      have bw8 : Below w.heap.size w w8 := bw7.trans (h8.mono bw7.size)
      have f49 := f39.mono h8
      have f50 := f40.mono h8
      have f51 := f41.mono h8
      have f52 := f42.mono h8
      have f53 := f37.mono h8
      clear f39 f40 f41 f42 f37
      go_wp2_with fail
      refine (eqIntsK _ _ (fwV (x0) (x1) (n2)) _ (OwnInts.rd f47) (OwnInts.rd f51)).mono ?_
      rintro e w9 ⟨rfl, h9⟩
      have sz9 : w8.heap.size ≤ w9.heap.size := h9.size
      have bw9 : Below w.heap.size w w9 := bw8.trans (h9.mono bw8.size)
      have f55 := f49.mono h9
      have f56 := f50.mono h9
      have f57 := f51.mono h9
      have f58 := f52.mono h9
      have f59 := f53.mono h9
      have f60 := f47.mono h9
      clear f49 f50 f51 f52 f53 f47
      go_wp2_with fail
      refine (toBayDsK _ (x0) _ (r0.mono (by have hbw := bw9; (repeat (first | with_reducible exact Below.refl _ _ | with_reducible exact hbw | (with_reducible refine Below.setCell ?_ ?_ _; rotate_left; · first | exact Nat.le_refl _ | omega | (simp; done) | (simp; omega)) | (with_reducible refine Below.alloc ?_ ?_ _; rotate_left; · first | exact Nat.le_refl _ | omega | (simp; done) | (simp; omega)) | with_reducible refine below_drewN ?_ _ | with_reducible refine Below.drew ?_)))) q0).mono ?_
      rintro e w10 ⟨v61, rfl, ho62, h10⟩
      obtain ⟨a63, c64, rfl⟩ := ho62.form
      have f65 : OwnBayDs w9.heap.size w10.heap.size w10 (.slice a63 (x0).length c64) (x0) := ho62
      clear ho62
      have sz10 : w9.heap.size ≤ w10.heap.size := h10.size
      have bw10 : Below w.heap.size w w10 := bw9.trans (h10.mono bw9.size)
      have f67 := f55.mono h10
      have f68 := f56.mono h10
      have f69 := f57.mono h10
      have f70 := f58.mono h10
      have f71 := f59.mono h10
      have f72 := f60.mono h10
      clear f55 f56 f57 f58 f59 f60
      go_wp2_with fail
      refine (eqBayDsK _ _ (x0) _ (OwnBayDs.rd f70) (OwnBayDs.rd f65)).mono ?_
      rintro e w11 ⟨rfl, h11⟩
      have sz11 : w10.heap.size ≤ w11.heap.size := h11.size
      have bw11 : Below w.heap.size w w11 := bw10.trans (h11.mono bw10.size)
      have f74 := f67.mono h11
      have f75 := f68.mono h11
      have f76 := f69.mono h11
      have f77 := f70.mono h11
      have f78 := f71.mono h11
      have f79 := f72.mono h11
      have f80 := f65.mono h11
      clear f67 f68 f69 f70 f71 f72 f65
      go_wp2_with fail
      refine (toCasDsK _ (x1) _ (r1.mono (by have hbw := bw11; (repeat (first | with_reducible exact Below.refl _ _ | with_reducible exact hbw | (with_reducible refine Below.setCell ?_ ?_ _; rotate_left; · first | exact Nat.le_refl _ | omega | (simp; done) | (simp; omega)) | (with_reducible refine Below.alloc ?_ ?_ _; rotate_left; · first | exact Nat.le_refl _ | omega | (simp; done) | (simp; omega)) | with_reducible refine below_drewN ?_ _ | with_reducible refine Below.drew ?_)))) q1).mono ?_
      rintro e w12 ⟨v81, rfl, ho82, h12⟩
      obtain ⟨a83, c84, rfl⟩ := ho82.form
      have f85 : OwnCasDs w11.heap.size w12.heap.size w12 (.slice a83 (x1).length c84) (x1) := ho82
      clear ho82
      have sz12 : w11.heap.size ≤ w12.heap.size := h12.size
      have bw12 : Below w.heap.size w w12 := bw11.trans (h12.mono bw11.size)
      have f87 := f74.mono h12
      have f88 := f75.mono h12
      have f89 := f76.mono h12
      have f90 := f77.mono h12
      have f91 := f78.mono h12
      have f92 := f79.mono h12
      have f93 := f80.mono h12
      clear f74 f75 f76 f77 f78 f79 f80
      go_wp2_with fail
      refine (eqCasDsK _ _ (x1) _ (OwnCasDs.rd f91) (OwnCasDs.rd f85)).mono ?_
      rintro e w13 ⟨rfl, h13⟩
      have sz13 : w12.heap.size ≤ w13.heap.size := h13.size
      have bw13 : Below w.heap.size w w13 := bw12.trans (h13.mono bw12.size)
      have f95 := f87.mono h13
      have f96 := f88.mono h13
      have f97 := f89.mono h13
      have f98 := f90.mono h13
      have f99 := f91.mono h13
      have f100 := f92.mono h13
      have f101 := f93.mono h13
      have f102 := f85.mono h13
      clear f87 f88 f89 f90 f91 f92 f93 f85
      go_wp2_with fail
      refine (markBayDsK _ _ _ (x0) (1) _ f98 (by omega) (by have := (sizeBayDs_bd q0); omega)).mono ?_
      rintro e w14 ⟨rfl, f103, t14⟩
      have sz14 : w13.heap.size ≤ w14.heap.size := t14.size
      have bw14 : Below w.heap.size w w14 := t14.below bw13 (by omega) (by omega)
      have f105 := f95.touch t14 (by omega)
      have f106 := f96.touch t14 (by omega)
      have f107 := f97.touch t14 (by omega)
      have f109 := f99.touch t14 (by omega)
      have f110 := f100.touch t14 (by omega)
      have f111 := f101.touch t14 (by omega)
      have f112 := f102.touch t14 (by omega)
      clear f95 f96 f97 f99 f100 f101 f102
      clear f98
      go_wp2_with fail
      refine (markCasDsK _ _ _ (x1) (1 + sizeBayDs (x0)) _ f109 (by omega) (by have := (sizeCasDs_bd q1); omega)).mono ?_
      rintro e w15 ⟨rfl, f113, t15⟩
      have sz15 : w14.heap.size ≤ w15.heap.size := t15.size
      have bw15 : Below w.heap.size w w15 := t15.below bw14 (by omega) (by omega)
      have f115 := f105.touch t15 (by omega)
      have f116 := f106.touch t15 (by omega)
      have f117 := f107.touch t15 (by omega)
      have f118 := f103.touch t15 (by omega)
      have f120 := f110.touch t15 (by omega)
      have f121 := f111.touch t15 (by omega)
      have f122 := f112.touch t15 (by omega)
      clear f105 f106 f107 f103 f110 f111 f112
      clear f109
      go_wp2_with fail
      refine (eqIntsK _ _ (fwV (x0) (x1) (n2)) _ (OwnInts.rd f120) (OwnInts.rd f117)).mono ?_
      rintro e w16 ⟨rfl, h16⟩
      have sz16 : w15.heap.size ≤ w16.heap.size := h16.size
      have bw16 : Below w.heap.size w w16 := bw15.trans (h16.mono bw15.size)
      have f124 := f115.mono h16
      have f125 := f116.mono h16
      have f126 := f117.mono h16
      have f127 := f118.mono h16
      have f128 := f113.mono h16
      have f129 := f120.mono h16
      have f130 := f121.mono h16
      have f131 := f122.mono h16
      clear f115 f116 f117 f118 f113 f120 f121 f122
      go_wp2_with fail
      refine (markIntsK _ _ _ (fwV (x0) (x1) (n2)) (1) _ f129 (by omega) (by have := hbd; omega)).mono ?_
      rintro e w17 ⟨rfl, f132, t17⟩
      have sz17 : w16.heap.size ≤ w17.heap.size := t17.size
      have bw17 : Below w.heap.size w w17 := t17.below bw16 (by omega) (by omega)
      have f134 := f124.touch t17 (by omega)
      have f135 := f125.touch t17 (by omega)
      have f136 := f126.touch t17 (by omega)
      have f137 := f127.touch t17 (by omega)
      have f138 := f128.touch t17 (by omega)
      have f140 := f130.touch t17 (by omega)
      have f141 := f131.touch t17 (by omega)
      clear f124 f125 f126 f127 f128 f130 f131
      clear f129
      go_wp2_with fail
      refine (heldIntsK _ _ _ (fwV (x0) (x1) (n2)) (1) _ f132 (by omega) (by have := hbd; omega)).mono ?_
      rintro e w18 ⟨rfl, h18⟩
      have sz18 : w17.heap.size ≤ w18.heap.size := h18.size
      have bw18 : Below w.heap.size w w18 := bw17.trans (h18.mono bw17.size)
      have f143 := f134.mono h18
      have f144 := f135.mono h18
      have f145 := f136.mono h18
      have f146 := f137.mono h18
      have f147 := f138.mono h18
      have f148 := f132.mono h18
      have f149 := f140.mono h18
      have f150 := f141.mono h18
      clear f134 f135 f136 f137 f138 f132 f140 f141
      go_wp2_with fail
      refine (toBayDsK _ (x0) _ (r0.mono (by have hbw := bw18; (repeat (first | with_reducible exact Below.refl _ _ | with_reducible exact hbw | (with_reducible refine Below.setCell ?_ ?_ _; rotate_left; · first | exact Nat.le_refl _ | omega | (simp; done) | (simp; omega)) | (with_reducible refine Below.alloc ?_ ?_ _; rotate_left; · first | exact Nat.le_refl _ | omega | (simp; done) | (simp; omega)) | with_reducible refine below_drewN ?_ _ | with_reducible refine Below.drew ?_)))) q0).mono ?_
      rintro e w19 ⟨v151, rfl, ho152, h19⟩
      obtain ⟨a153, c154, rfl⟩ := ho152.form
      have f155 : OwnBayDs w18.heap.size w19.heap.size w19 (.slice a153 (x0).length c154) (x0) := ho152
      clear ho152
      have sz19 : w18.heap.size ≤ w19.heap.size := h19.size
      have bw19 : Below w.heap.size w w19 := bw18.trans (h19.mono bw18.size)
      have f157 := f143.mono h19
      have f158 := f144.mono h19
      have f159 := f145.mono h19
      have f160 := f146.mono h19
      have f161 := f147.mono h19
      have f162 := f148.mono h19
      have f163 := f149.mono h19
      have f164 := f150.mono h19
      clear f143 f144 f145 f146 f147 f148 f149 f150
      go_wp2_with fail
      refine (toCasDsK _ (x1) _ (r1.mono (by have hbw := bw19; (repeat (first | with_reducible exact Below.refl _ _ | with_reducible exact hbw | (with_reducible refine Below.setCell ?_ ?_ _; rotate_left; · first | exact Nat.le_refl _ | omega | (simp; done) | (simp; omega)) | (with_reducible refine Below.alloc ?_ ?_ _; rotate_left; · first | exact Nat.le_refl _ | omega | (simp; done) | (simp; omega)) | with_reducible refine below_drewN ?_ _ | with_reducible refine Below.drew ?_)))) q1).mono ?_
      rintro e w20 ⟨v165, rfl, ho166, h20⟩
      obtain ⟨a167, c168, rfl⟩ := ho166.form
      have f169 : OwnCasDs w19.heap.size w20.heap.size w20 (.slice a167 (x1).length c168) (x1) := ho166
      clear ho166
      have sz20 : w19.heap.size ≤ w20.heap.size := h20.size
      have bw20 : Below w.heap.size w w20 := bw19.trans (h20.mono bw19.size)
      have f171 := f157.mono h20
      have f172 := f158.mono h20
      have f173 := f159.mono h20
      have f174 := f160.mono h20
      have f175 := f161.mono h20
      have f176 := f162.mono h20
      have f177 := f163.mono h20
      have f178 := f164.mono h20
      have f179 := f155.mono h20
      clear f157 f158 f159 f160 f161 f162 f163 f164 f155
      go_wp2_with fail
      refine (implFewestBays_any _ (x0) _ (x1) (n2) _ (OwnBayDs.rd f179) o0 q0 (OwnCasDs.rd f169) o1 q1 o2).mono ?_
      rintro e w21 ⟨v180, rfl, ho181, h21⟩
      obtain ⟨a182, c183, rfl⟩ := ho181.form
      have f184 : OwnInts w20.heap.size w21.heap.size w21 (.slice a182 (fwV (x0) (x1) (n2)).length c183) (fwV (x0) (x1) (n2)) := ho181
      clear ho181
      have sz21 : w20.heap.size ≤ w21.heap.size := h21.size
      have bw21 : Below w.heap.size w w21 := bw20.trans (h21.mono bw20.size)
      have f186 := f171.mono h21
      have f187 := f172.mono h21
      have f188 := f173.mono h21
      have f189 := f174.mono h21
      have f190 := f175.mono h21
      have f191 := f176.mono h21
      have f192 := f177.mono h21
      have f193 := f178.mono h21
      have f194 := f179.mono h21
      have f195 := f169.mono h21
      clear f171 f172 f173 f174 f175 f176 f177 f178 f179 f169
      go_wp2_with fail
      refine (eqIntsK _ _ (fwV (x0) (x1) (n2)) _ (OwnInts.rd f184) (OwnInts.rd f188)).mono ?_
      rintro e w22 ⟨rfl, h22⟩
      have sz22 : w21.heap.size ≤ w22.heap.size := h22.size
      have bw22 : Below w.heap.size w w22 := bw21.trans (h22.mono bw21.size)
      have f197 := f186.mono h22
      have f198 := f187.mono h22
      have f199 := f188.mono h22
      have f200 := f189.mono h22
      have f201 := f190.mono h22
      have f202 := f191.mono h22
      have f203 := f192.mono h22
      have f204 := f193.mono h22
      have f205 := f194.mono h22
      have f206 := f195.mono h22
      have f207 := f184.mono h22
      clear f186 f187 f188 f189 f190 f191 f192 f193 f194 f195 f184
      go_wp2_with fail
      refine (heldIntsK _ _ _ (fwV (x0) (x1) (n2)) (1) _ f202 (by omega) (by have := hbd; omega)).mono ?_
      rintro e w23 ⟨rfl, h23⟩
      have sz23 : w22.heap.size ≤ w23.heap.size := h23.size
      have bw23 : Below w.heap.size w w23 := bw22.trans (h23.mono bw22.size)
      have f209 := f197.mono h23
      have f210 := f198.mono h23
      have f211 := f199.mono h23
      have f212 := f200.mono h23
      have f213 := f201.mono h23
      have f214 := f202.mono h23
      have f215 := f203.mono h23
      have f216 := f204.mono h23
      have f217 := f205.mono h23
      have f218 := f206.mono h23
      have f219 := f207.mono h23
      clear f197 f198 f199 f200 f201 f202 f203 f204 f205 f206 f207
      go_wp2
      go_ret
      exact ⟨rfl, bw23⟩
    · skip
      go_enter Try.func5, Try.ntmps5
      go_wp2_with fail
      refine (szBayDsY _ (x0) (1048576) _ (r0.mono (by (repeat (first | with_reducible exact Below.refl _ _ | with_reducible exact hbw | (with_reducible refine Below.setCell ?_ ?_ _; rotate_left; · first | exact Nat.le_refl _ | omega | (simp; done) | (simp; omega)) | (with_reducible refine Below.alloc ?_ ?_ _; rotate_left; · first | exact Nat.le_refl _ | omega | (simp; done) | (simp; omega)) | with_reducible refine below_drewN ?_ _ | with_reducible refine Below.drew ?_)))) o0 (by omega) (by omega) (by omega)).mono ?_
      rintro e w1 ⟨rfl, h1⟩
      have bw1 : Below w.heap.size w w1 := Below.trans (by (repeat (first | with_reducible exact Below.refl _ _ | with_reducible exact hbw | (with_reducible refine Below.setCell ?_ ?_ _; rotate_left; · first | exact Nat.le_refl _ | omega | (simp; done) | (simp; omega)) | (with_reducible refine Below.alloc ?_ ?_ _; rotate_left; · first | exact Nat.le_refl _ | omega | (simp; done) | (simp; omega)) | with_reducible refine below_drewN ?_ _ | with_reducible refine Below.drew ?_))) (h1.mono (by simp <;> omega))
      go_wp2_with fail
      refine (szCasDsN _ (x1) (1048576 - (szBayDs x0 : Int)) _ (r1.mono (by have hbw := bw1; (repeat (first | with_reducible exact Below.refl _ _ | with_reducible exact hbw | (with_reducible refine Below.setCell ?_ ?_ _; rotate_left; · first | exact Nat.le_refl _ | omega | (simp; done) | (simp; omega)) | (with_reducible refine Below.alloc ?_ ?_ _; rotate_left; · first | exact Nat.le_refl _ | omega | (simp; done) | (simp; omega)) | with_reducible refine below_drewN ?_ _ | with_reducible refine Below.drew ?_)))) o1 (by omega) (by omega) (by omega)).mono ?_
      rintro e w2 ⟨rfl, h2⟩
      have bw2 : Below w.heap.size w w2 := Below.trans (by have hbw := bw1; (repeat (first | with_reducible exact Below.refl _ _ | with_reducible exact hbw | (with_reducible refine Below.setCell ?_ ?_ _; rotate_left; · first | exact Nat.le_refl _ | omega | (simp; done) | (simp; omega)) | (with_reducible refine Below.alloc ?_ ?_ _; rotate_left; · first | exact Nat.le_refl _ | omega | (simp; done) | (simp; omega)) | with_reducible refine below_drewN ?_ _ | with_reducible refine Below.drew ?_))) (h2.mono (by have := bw1.size; simp; omega))
      go_wp2
      go_ret
      exact ⟨rfl, bw2⟩
  · skip
    go_enter Try.func5, Try.ntmps5
    go_wp2_with fail
    refine (szBayDsN _ (x0) (1048576) _ (r0.mono (by (repeat (first | with_reducible exact Below.refl _ _ | with_reducible exact hbw | (with_reducible refine Below.setCell ?_ ?_ _; rotate_left; · first | exact Nat.le_refl _ | omega | (simp; done) | (simp; omega)) | (with_reducible refine Below.alloc ?_ ?_ _; rotate_left; · first | exact Nat.le_refl _ | omega | (simp; done) | (simp; omega)) | with_reducible refine below_drewN ?_ _ | with_reducible refine Below.drew ?_)))) o0 (by omega) (by omega) (by omega)).mono ?_
    rintro e w1 ⟨rfl, h1⟩
    have bw1 : Below w.heap.size w w1 := Below.trans (by (repeat (first | with_reducible exact Below.refl _ _ | with_reducible exact hbw | (with_reducible refine Below.setCell ?_ ?_ _; rotate_left; · first | exact Nat.le_refl _ | omega | (simp; done) | (simp; omega)) | (with_reducible refine Below.alloc ?_ ?_ _; rotate_left; · first | exact Nat.le_refl _ | omega | (simp; done) | (simp; omega)) | with_reducible refine below_drewN ?_ _ | with_reducible refine Below.drew ?_))) (h1.mono (by simp <;> omega))
    go_wp2
    go_ret
    exact ⟨rfl, bw1⟩

end Go.Proofs.Yteaijhmgfddjiaa
