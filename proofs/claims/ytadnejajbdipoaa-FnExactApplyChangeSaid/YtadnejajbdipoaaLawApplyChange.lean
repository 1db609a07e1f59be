/- The law FnExactApplyChange returns true and leaves memory as it was. -/
import Derived.Test.YtadnejajbdipoaaApplyC
import Derived.Test.YtadnejajbdipoaaKIntsEq
import Derived.Test.YtadnejajbdipoaaKIntsTo
import Derived.Test.YtadnejajbdipoaaKIntsM
set_option linter.unusedSimpArgs false
set_option linter.unnecessarySimpa false
set_option linter.unusedVariables false
set_option maxRecDepth 100000
namespace Go.Proofs.Ytadnejajbdipoaa
open Go.RowKit

set_option maxHeartbeats 4000000 in
theorem lawApplyChange (w : World) (v0 : Value) (x0 : List Int) (h0 : Ints w v0 x0) (o0 : ∀ x ∈ x0, I64 x) (s1 : ByteArray) (p1 : s1.size ≤ maxLen) :
    Calls Try.prog 7 #[v0, .string s1] w fun e w' => e = .returned (.bool true) ∧ Below w.heap.size w w' := by
  have r0 : RdInts w v0 x0 := h0
  obtain ⟨a00, c00, rfl, hca, hcm, _⟩ := id h0
  have m0 : x0.length ≤ maxLen := by omega
  clear hca hcm
  unfold maxLen at m0
  unfold maxLen at p1
  by_cases g0 : x0.length ≤ 1048576
  · skip
    by_cases g1 : s1.size ≤ 1048576
    · skip
      have q0 : x0.length ≤ 1048576 := g0
      have q1 : s1.size ≤ 1048576 := g1
      have hbd := ac_len x0 s1
      go_enter Try.func7, Try.ntmps7
      go_wp2_with fail
      refine (toIntsK _ (x0) _ (r0.mono (by (repeat (first | with_reducible exact Below.refl _ _ | with_reducible exact hbw | (with_reducible refine Below.setCell ?_ ?_ _; rotate_left; · first | exact Nat.le_refl _ | omega | (simp; done) | (simp; omega)) | (with_reducible refine Below.alloc ?_ ?_ _; rotate_left; · first | exact Nat.le_refl _ | omega | (simp; done) | (simp; omega)) | with_reducible refine below_drewN ?_ _ | with_reducible refine Below.drew ?_)))) q0).mono ?_
      rintro e w1 ⟨v1, rfl, ho2, h1⟩
      obtain ⟨a3, c4, rfl⟩ := ho2.form
      have f5 : OwnInts w.heap.size w1.heap.size w1 (.slice a3 (x0).length c4) (x0) := ho2
      clear ho2
      have sz1 : w.heap.size ≤ w1.heap.size := h1.size
      have bw1 : Below w.heap.size w w1 := h1
      go_wp2_with fail
      refine (specApplyChange_any _ (x0) (s1) _ (OwnInts.rd f5) o0 q0 q1).mono ?_
      rintro e w2 ⟨v7, rfl, ho8, h2⟩
      obtain ⟨a9, c10, rfl⟩ := ho8.form
      have f11 : OwnInts w1.heap.size w2.heap.size w2 (.slice a9 (acV (x0) (s1)).length c10) (acV (x0) (s1)) := ho8
      clear ho8
      have sz2 : w1.heap.size ≤ w2.heap.size := h2.size
      have bw2 : Below w.heap.size w w2 := bw1.trans (h2.mono bw1.size)
      have f13 := f5.mono h2
      clear f5
      go_wp2_with fail
      refine (toIntsK _ (x0) _ (r0.mono (by have hbw := bw2; (repeat (first | with_reducible exact Below.refl _ _ | with_reducible exact hbw | (with_reducible refine Below.setCell ?_ ?_ _; rotate_left; · first | exact Nat.le_refl _ | omega | (simp; done) | (simp; omega)) | (with_reducible refine Below.alloc ?_ ?_ _; rotate_left; · first | exact Nat.le_refl _ | omega | (simp; done) | (simp; omega)) | with_reducible refine below_drewN ?_ _ | with_reducible refine Below.drew ?_)))) q0).mono ?_
      rintro e w3 ⟨v14, rfl, ho15, h3⟩
      obtain ⟨a16, c17, rfl⟩ := ho15.form
      have f18 : OwnInts w2.heap.size w3.heap.size w3 (.slice a16 (x0).length c17) (x0) := ho15
      clear ho15
      have sz3 : w2.heap.size ≤ w3.heap.size := h3.size
      have bw3 : Below w.heap.size w w3 := bw2.trans (h3.mono bw2.size)
      have f20 := f13.mono h3
      have f21 := f11.mono h3
      clear f13 f11
      go_wp2_with fail
      refine (implApplyChange_any _ (x0) (s1) _ (OwnInts.rd f18) o0 q0 q1).mono ?_
      rintro e w4 ⟨v22, rfl, ho23, h4⟩
      obtain ⟨a24, c25, rfl⟩ := ho23.form
      have f26 : OwnInts w3.heap.size w4.heap.size w4 (.slice a24 (acV (x0) (s1)).length c25) (acV (x0) (s1)) := ho23
      clear ho23
      have sz4 : w3.heap.size ≤ w4.heap.size := h4.size
      have bw4 : Below w.heap.size w w4 := bw3.trans (h4.mono bw3.size)
      have f28 := f20.mono h4
      have f29 := f21.mono h4
      have f30 := f18.mono h4
      clear f20 f21 f18
      go_wp2_with fail
      refine (eqIntsK _ _ (acV (x0) (s1)) _ (OwnInts.rd f26) (OwnInts.rd f29)).mono ?_
      rintro e w5 ⟨rfl, h5⟩
      have sz5 : w4.heap.size ≤ w5.heap.size := h5.size
      have bw5 : Below w.heap.size w w5 := bw4.trans (h5.mono bw4.size)
      have f32 := f28.mono h5
      have f33 := f29.mono h5
      have f34 := f30.mono h5
      have f35 := f26.mono h5
      clear f28 f29 f30 f26
      go_wp2_with fail
      refine (toIntsK _ (x0) _ (r0.mono (by have hbw := bw5; (repeat (first | with_reducible exact Below.refl _ _ | with_reducible exact hbw | (with_reducible refine Below.setCell ?_ ?_ _; rotate_left; · first | exact Nat.le_refl _ | omega | (simp; done) | (simp; omega)) | (with_reducible refine Below.alloc ?_ ?_ _; rotate_left; · first | exact Nat.le_refl _ | omega | (simp; done) | (simp; omega)) | with_reducible refine below_drewN ?_ _ | with_reducible refine Below.drew ?_)))) q0).mono ?_
      rintro e w6 ⟨v36, rfl, ho37, h6⟩
      obtain ⟨a38, c39, rfl⟩ := ho37.form
      have f40 : OwnInts w5.heap.size w6.heap.size w6 (.slice a38 (x0).length c39) (x0) := ho37
      clear ho37
      have sz6 : w5.heap.size ≤ w6.heap.size := h6.size
      have bw6 : Below w.heap.size w w6 := bw5.trans (h6.mono bw5.size)
      have f42 := f32.mono h6
      have f43 := f33.mono h6
      have f44 := f34.mono h6
      have f45 := f35.mono h6
      clear f32 f33 f34 f35
      go_wp2_with fail
      refine (eqIntsK _ _ (x0) _ (OwnInts.rd f44) (OwnInts.rd f40)).mono ?_
      rintro e w7 ⟨rfl, h7⟩
      have sz7 : w6.heap.size ≤ w7.heap.size := h7.size
      have bw7 : Below w.heap.size w w7 := bw6.trans (h7.mono bw6.size)
      have f47 := f42.mono h7
      have f48 := f43.mono h7
      have f49 := f44.mono h7
      have f50 := f45.mono h7
      have f51 := f40.mono h7
      clear f42 f43 f44 f45 f40
      go_wp2_with fail
      refine (markIntsK _ _ _ (x0) (1) _ f49 (by omega) (by have := q0; omega)).mono ?_
      rintro e w8 ⟨rfl, f52, t8⟩
      have sz8 : w7.heap.size ≤ w8.heap.size := t8.size
      have bw8 : Below w.heap.size w w8 := t8.below bw7 (by omega) (by omega)
      have f54 := f47.touch t8 (by omega)
      have f55 := f48.touch t8 (by omega)
      have f57 := f50.touch t8 (by omega)
      have f58 := f51.touch t8 (by omega)
      clear f47 f48 f50 f51
      clear f49
      go_wp2_with fail
      refine (eqIntsK _ _ (acV (x0) (s1)) _ (OwnInts.rd f57) (OwnInts.rd f55)).mono ?_
      rintro e w9 ⟨rfl, h9⟩
      have sz9 : w8.heap.size ≤ w9.heap.size := h9.size
      have bw9 : Below w.heap.size w w9 := bw8.trans (h9.mono bw8.size)
      have f60 := f54.mono h9
      have f61 := f55.mono h9
      have f62 := f52.mono h9
      have f63 := f57.mono h9
      have f64 := f58.mono h9
      clear f54 f55 f52 f57 f58
      go_wp2_with fail
      refine (markIntsK _ _ _ (acV (x0) (s1)) (1) _ f63 (by omega) (by have := hbd; omega)).mono ?_
      rintro e w10 ⟨rfl, f65, t10⟩
      have sz10 : w9.heap.size ≤ w10.heap.size := t10.size
      have bw10 : Below w.heap.size w w10 := t10.below bw9 (by omega) (by omega)
      have f67 := f60.touch t10 (by omega)
      have f68 := f61.touch t10 (by omega)
      have f69 := f62.touch t10 (by omega)
      have f71 := f64.touch t10 (by omega)
      clear f60 f61 f62 f64
      clear f63
      go_wp2_with fail
      refine (heldIntsK _ _ _ (acV (x0) (s1)) (1) _ f65 (by omega) (by have := hbd; omega)).mono ?_
      rintro e w11 ⟨rfl, h11⟩
      have sz11 : w10.heap.size ≤ w11.heap.size := h11.size
      have bw11 : Below w.heap.size w w11 := bw10.trans (h11.mono bw10.size)
      have f73 := f67.mono h11
      have f74 := f68.mono h11
      have f75 := f69.mono h11
      have f76 := f65.mono h11
      have f77 := f71.mono h11
      clear f67 f68 f69 f65 f71
      go_wp2_with fail
      refine (toIntsK _ (x0) _ (r0.mono (by have hbw := bw11; (repeat (first | with_reducible exact Below.refl _ _ | with_reducible exact hbw | (with_reducible refine Below.setCell ?_ ?_ _; rotate_left; · first | exact Nat.le_refl _ | omega | (simp; done) | (simp; omega)) | (with_reducible refine Below.alloc ?_ ?_ _; rotate_left; · first | exact Nat.le_refl _ | omega | (simp; done) | (simp; omega)) | with_reducible refine below_drewN ?_ _ | with_reducible refine Below.drew ?_)))) q0).mono ?_
      rintro e w12 ⟨v78, rfl, ho79, h12⟩
      obtain ⟨a80, c81, rfl⟩ := ho79.form
      have f82 : OwnInts w11.heap.size w12.heap.size w12 (.slice a80 (x0).length c81) (x0) := ho79
      clear ho79
      have sz12 : w11.heap.size ≤ w12.heap.size := h12.size
      have bw12 : Below w.heap.size w w12 := bw11.trans (h12.mono bw11.size)
      have f84 := f73.mono h12
      have f85 := f74.mono h12
      have f86 := f75.mono h12
      have f87 := f76.mono h12
      have f88 := f77.mono h12
      clear f73 f74 f75 f76 f77
      go_wp2_with fail
      refine (implApplyChange_any _ (x0) (s1) _ (OwnInts.rd f82) o0 q0 q1).mono ?_
      rintro e w13 ⟨v89, rfl, ho90, h13⟩
      obtain ⟨a91, c92, rfl⟩ := ho90.form
      have f93 : OwnInts w12.heap.size w13.heap.size w13 (.slice a91 (acV (x0) (s1)).length c92) (acV (x0) (s1)) := ho90
      clear ho90
      have sz13 : w12.heap.size ≤ w13.heap.size := h13.size
      have bw13 : Below w.heap.size w w13 := bw12.trans (h13.mono bw12.size)
      have f95 := f84.mono h13
      have f96 := f85.mono h13
      have f97 := f86.mono h13
      have f98 := f87.mono h13
      have f99 := f88.mono h13
      have f100 := f82.mono h13
      clear f84 f85 f86 f87 f88 f82
      go_wp2_with fail
      refine (eqIntsK _ _ (acV (x0) (s1)) _ (OwnInts.rd f93) (OwnInts.rd f96)).mono ?_
      rintro e w14 ⟨rfl, h14⟩
      have sz14 : w13.heap.size ≤ w14.heap.size := h14.size
      have bw14 : Below w.heap.size w w14 := bw13.trans (h14.mono bw13.size)
      have f102 := f95.mono h14
      have f103 := f96.mono h14
      have f104 := f97.mono h14
      have f105 := f98.mono h14
      have f106 := f99.mono h14
      have f107 := f100.mono h14
      have f108 := f93.mono h14
      clear f95 f96 f97 f98 f99 f100 f93
      go_wp2_with fail
      refine (heldIntsK _ _ _ (acV (x0) (s1)) (1) _ f105 (by omega) (by have := hbd; omega)).mono ?_
      rintro e w15 ⟨rfl, h15⟩
      have sz15 : w14.heap.size ≤ w15.heap.size := h15.size
      have bw15 : Below w.heap.size w w15 := bw14.trans (h15.mono bw14.size)
      have f110 := f102.mono h15
      have f111 := f103.mono h15
      have f112 := f104.mono h15
      have f113 := f105.mono h15
      have f114 := f106.mono h15
      have f115 := f107.mono h15
      have f116 := f108.mono h15
      clear f102 f103 f104 f105 f106 f107 f108
      go_wp2
      go_ret
      exact ⟨rfl, bw15⟩
    · skip
      go_enter Try.func7, Try.ntmps7
      go_wp2
      go_ret
      refine ⟨rfl, ?_⟩
      (repeat (first | with_reducible exact Below.refl _ _ | with_reducible exact hbw | (with_reducible refine Below.setCell ?_ ?_ _; rotate_left; · first | exact Nat.le_refl _ | omega | (simp; done) | (simp; omega)) | (with_reducible refine Below.alloc ?_ ?_ _; rotate_left; · first | exact Nat.le_refl _ | omega | (simp; done) | (simp; omega)) | with_reducible refine below_drewN ?_ _ | with_reducible refine Below.drew ?_))
  · skip
    go_enter Try.func7, Try.ntmps7
    go_wp2
    go_ret
    refine ⟨rfl, ?_⟩
    (repeat (first | with_reducible exact Below.refl _ _ | with_reducible exact hbw | (with_reducible refine Below.setCell ?_ ?_ _; rotate_left; · first | exact Nat.le_refl _ | omega | (simp; done) | (simp; omega)) | (with_reducible refine Below.alloc ?_ ?_ _; rotate_left; · first | exact Nat.le_refl _ | omega | (simp; done) | (simp; omega)) | with_reducible refine below_drewN ?_ _ | with_reducible refine Below.drew ?_))

end Go.Proofs.Ytadnejajbdipoaa
