/- The law FnExactFewestExtra returns true and leaves memory as it was. -/
import Derived.Test.YtgelilelmmocgaaFewI
import Derived.Test.YtgelilelmmocgaaKTun
import Derived.Test.YtgelilelmmocgaaKIntsEq
import Derived.Test.YtgelilelmmocgaaKIntsM
import Derived.Test.YtgelilelmmocgaaKIntsTo
set_option linter.unusedSimpArgs false
set_option linter.unnecessarySimpa false
set_option linter.unusedVariables false
set_option maxRecDepth 100000
namespace Go.Proofs.Ytgelilelmmocgaa
open Go.RowKit

set_option maxHeartbeats 4000000 in
theorem lawFewestExtra (w : World) (v0 : Value) (y0 : Value × TunD) (h0 : Tun w v0 y0.1 y0.2) (o0 : y0.2.ok) (v1 : Value) (x1 : List Int) (h1 : Ints w v1 x1) (o1 : ∀ x ∈ x1, I64 x) :
    Calls Try.prog 9 #[v0, v1] w fun e w' => e = .returned (.bool true) ∧ Below w.heap.size w w' := by
  obtain ⟨l0, x0⟩ := y0
  obtain ⟨rfl, hl0⟩ := h0
  simp only at hl0 o0 ⊢
  have r0 : RdTun w (.agg #[.string (x0).name, l0]) x0 := ⟨l0, rfl, hl0⟩
  have r1 : RdInts w v1 x1 := h1
  obtain ⟨a10, c10, rfl, hca, hcm, _⟩ := id h1
  have m1 : x1.length ≤ maxLen := by omega
  clear hca hcm
  unfold maxLen at m1
  by_cases g0 : x1.length ≤ 1048576
  · skip
    by_cases g1 : szTun x0 ≤ 1048576
    · skip
      have q1 : x1.length ≤ 1048576 := g0
      have q0 : (x0).tones.length ≤ 1048576 := by have := g1; unfold szTun at this; omega
      have hbd := fe_len x0 x1 (by omega)
      go_enter Try.func9, Try.ntmps9
      go_wp2_with fail
      refine (szTunY _ (x0) (1048576) _ (r0.mono (by (repeat (first | with_reducible exact Below.refl _ _ | with_reducible exact hbw | (with_reducible refine Below.setCell ?_ ?_ _; rotate_left; · first | exact Nat.le_refl _ | omega | (simp; done) | (simp; omega)) | (with_reducible refine Below.alloc ?_ ?_ _; rotate_left; · first | exact Nat.le_refl _ | omega | (simp; done) | (simp; omega)) | with_reducible refine below_drewN ?_ _ | with_reducible refine Below.drew ?_)))) o0 (by omega) (by omega) (by omega)).mono ?_
      rintro e w1 ⟨rfl, h1⟩
      have st1 : Below w.heap.size w w1 := Below.trans (by (repeat (first | with_reducible exact Below.refl _ _ | with_reducible exact hbw | (with_reducible refine Below.setCell ?_ ?_ _; rotate_left; · first | exact Nat.le_refl _ | omega | (simp; done) | (simp; omega)) | (with_reducible refine Below.alloc ?_ ?_ _; rotate_left; · first | exact Nat.le_refl _ | omega | (simp; done) | (simp; omega)) | with_reducible refine below_drewN ?_ _ | with_reducible refine Below.drew ?_))) (h1.mono (by first | exact Nat.le_refl _ | omega | (simp; done) | (simp; omega)))
      have sz1 : w.heap.size + 1 ≤ w1.heap.size := by have := h1.size; simp at this ⊢; omega
      have bw1 : Below w.heap.size w w1 := st1
      have x2 : w1.cell? ⟨w.heap.size, 0, none⟩ = some (.string (x0).name) := cellB h1 (by simp [go_sem])
      have x3 : w1.cell? ⟨w.heap.size, 1, none⟩ = some (l0) := cellB h1 (by simp [go_sem])
      have l4 : w.heap.size < w1.heap.size := by omega
      clear h1
      go_wp2_with fail
      refine (toTunK _ (x0) _ (r0.mono (by have hbw := bw1; (repeat (first | with_reducible exact Below.refl _ _ | with_reducible exact hbw | (with_reducible refine Below.setCell ?_ ?_ _; rotate_left; · first | exact Nat.le_refl _ | omega | (simp; done) | (simp; omega)) | (with_reducible refine Below.alloc ?_ ?_ _; rotate_left; · first | exact Nat.le_refl _ | omega | (simp; done) | (simp; omega)) | with_reducible refine below_drewN ?_ _ | with_reducible refine Below.drew ?_)))) q0).mono ?_
      rintro e w2 ⟨v5, rfl, ho6, h2⟩
      obtain ⟨a7, c8, rfl⟩ := ho6.form
      have f9 : OwnTun w1.heap.size w2.heap.size w2 (.agg #[.string (x0).name, .slice a7 (x0).tones.length c8]) (x0) := ho6
      clear ho6
      have sz2 : w1.heap.size ≤ w2.heap.size := h2.size
      have bw2 : Below w.heap.size w w2 := bw1.trans (h2.mono bw1.size)
      have x11 : w2.cell? ⟨w.heap.size, 0, none⟩ = some (.string (x0).name) := cellB h2 x2
      have x12 : w2.cell? ⟨w.heap.size, 1, none⟩ = some (l0) := cellB h2 x3
      have l13 : w.heap.size < w2.heap.size := by omega
      clear x2 x3 l4
      go_wp2_with fail
      refine (toIntsK _ (x1) _ (r1.mono (by have hbw := bw2; (repeat (first | with_reducible exact Below.refl _ _ | with_reducible exact hbw | (with_reducible refine Below.setCell ?_ ?_ _; rotate_left; · first | exact Nat.le_refl _ | omega | (simp; done) | (simp; omega)) | (with_reducible refine Below.alloc ?_ ?_ _; rotate_left; · first | exact Nat.le_refl _ | omega | (simp; done) | (simp; omega)) | with_reducible refine below_drewN ?_ _ | with_reducible refine Below.drew ?_)))) q1).mono ?_
      rintro e w3 ⟨v14, rfl, ho15, h3⟩
      obtain ⟨a16, c17, rfl⟩ := ho15.form
      have f18 : OwnInts w2.heap.size w3.heap.size w3 (.slice a16 (x1).length c17) (x1) := ho15
      clear ho15
      have sz3 : w2.heap.size ≤ w3.heap.size := h3.size
      have bw3 : Below w.heap.size w w3 := bw2.trans (h3.mono bw2.size)
      have f20 := f9.mono h3
      have x21 : w3.cell? ⟨w.heap.size, 0, none⟩ = some (.string (x0).name) := cellB h3 x11
      have x22 : w3.cell? ⟨w.heap.size, 1, none⟩ = some (l0) := cellB h3 x12
      have l23 : w.heap.size < w3.heap.size := by omega
      clear f9 x11 x12 l13
      go_wp2_with fail
      refine (specFewestExtra_any _ (x0) _ (x1) _ (OwnTun.rd f20) o0 q0 (OwnInts.rd f18) o1 q1).mono ?_
      rintro e w4 ⟨v24, rfl, ho25, h4⟩
      obtain ⟨a26, c27, rfl⟩ := ho25.form
      have f28 : OwnInts w3.heap.size w4.heap.size w4 (.slice a26 (feV (x0) (x1)).length c27) (feV (x0) (x1)) := ho25
      clear ho25
      have sz4 : w3.heap.size ≤ w4.heap.size := h4.size
      have bw4 : Below w.heap.size w w4 := bw3.trans (h4.mono bw3.size)
      have f30 := f20.mono h4
      have f31 := f18.mono h4
      have x32 : w4.cell? ⟨w.heap.size, 0, none⟩ = some (.string (x0).name) := cellB h4 x21
      have x33 : w4.cell? ⟨w.heap.size, 1, none⟩ = some (l0) := cellB h4 x22
      have l34 : w.heap.size < w4.heap.size := by omega
      clear f20 f18 x21 x22 l23
      go_wp2_with fail
      refine (toTunK _ (x0) _ (r0.mono (by have hbw := bw4; (repeat (first | with_reducible exact Below.refl _ _ | with_reducible exact hbw | (with_reducible refine Below.setCell ?_ ?_ _; rotate_left; · first | exact Nat.le_refl _ | omega | (simp; done) | (simp; omega)) | (with_reducible refine Below.alloc ?_ ?_ _; rotate_left; · first | exact Nat.le_refl _ | omega | (simp; done) | (simp; omega)) | with_reducible refine below_drewN ?_ _ | with_reducible refine Below.drew ?_)))) q0).mono ?_
      rintro e w5 ⟨v35, rfl, ho36, h5⟩
      obtain ⟨a37, c38, rfl⟩ := ho36.form
      have f39 : OwnTun w4.heap.size w5.heap.size w5 (.agg #[.string (x0).name, .slice a37 (x0).tones.length c38]) (x0) := ho36
      clear ho36
      have sz5 : w4.heap.size ≤ w5.heap.size := h5.size
      have bw5 : Below w.heap.size w w5 := bw4.trans (h5.mono bw4.size)
      have f41 := f30.mono h5
      have f42 := f31.mono h5
      have f43 := f28.mono h5
      have x44 : w5.cell? ⟨w.heap.size, 0, none⟩ = some (.string (x0).name) := cellB h5 x32
      have x45 : w5.cell? ⟨w.heap.size, 1, none⟩ = some (l0) := cellB h5 x33
      have l46 : w.heap.size < w5.heap.size := by omega
      clear f30 f31 f28 x32 x33 l34
      go_wp2_with fail
      refine (toIntsK _ (x1) _ (r1.mono (by have hbw := bw5; (repeat (first | with_reducible exact Below.refl _ _ | with_reducible exact hbw | (with_reducible refine Below.setCell ?_ ?_ _; rotate_left; · first | exact Nat.le_refl _ | omega | (simp; done) | (simp; omega)) | (with_reducible refine Below.alloc ?_ ?_ _; rotate_left; · first | exact Nat.le_refl _ | omega | (simp; done) | (simp; omega)) | with_reducible refine below_drewN ?_ _ | with_reducible refine Below.drew ?_)))) q1).mono ?_
      rintro e w6 ⟨v47, rfl, ho48, h6⟩
      obtain ⟨a49, c50, rfl⟩ := ho48.form
      have f51 : OwnInts (w5.heap.size + 1) w6.heap.size w6 (.slice a49 (x1).length c50) (x1) := ho48.wide (by simp) (Nat.le_refl _)
      clear ho48
      have st52 : Below w5.heap.size w5 w6 := Below.trans (by (repeat (first | with_reducible exact Below.refl _ _ | with_reducible exact hbw | (with_reducible refine Below.setCell ?_ ?_ _; rotate_left; · first | exact Nat.le_refl _ | omega | (simp; done) | (simp; omega)) | (with_reducible refine Below.alloc ?_ ?_ _; rotate_left; · first | exact Nat.le_refl _ | omega | (simp; done) | (simp; omega)) | with_reducible refine below_drewN ?_ _ | with_reducible refine Below.drew ?_))) (h6.mono (by first | exact Nat.le_refl _ | omega | (simp; done) | (simp; omega)))
      have sz6 : w5.heap.size + 1 ≤ w6.heap.size := by have := h6.size; simp at this ⊢; omega
      have bw6 : Below w.heap.size w w6 := bw5.trans (st52.mono bw5.size)
      have f53 := f41.mono st52
      have f54 := f42.mono st52
      have f55 := f43.mono st52
      have f56 := f39.mono st52
      have x57 : w6.cell? ⟨w.heap.size, 0, none⟩ = some (.string (x0).name) := cellB st52 x44
      have x58 : w6.cell? ⟨w.heap.size, 1, none⟩ = some (l0) := cellB st52 x45
      have l59 : w.heap.size < w6.heap.size := by omega
      have x60 : w6.cell? ⟨w5.heap.size, 0, none⟩ = some (.string (x0).name) := cellB h6 (by simp [go_sem])
      have x61 : w6.cell? ⟨w5.heap.size, 1, none⟩ = some (.slice a37 (x0).tones.length c38) := cellB h6 (by simp [go_sem])
      have l62 : w5.heap.size < w6.heap.size := by omega
      clear f41 f42 f43 f39 x44 x45 l46 h6
      go_wp2_with fail
      refine (implFewestExtra_any _ (x0) _ (x1) _ (OwnTun.rd f56) o0 q0 (OwnInts.rd f51) o1 q1).mono ?_
      rintro e w7 ⟨v63, rfl, ho64, h7⟩
      obtain ⟨a65, c66, rfl⟩ := ho64.form
      have f67 : OwnInts w6.heap.size w7.heap.size w7 (.slice a65 (feV (x0) (x1)).length c66) (feV (x0) (x1)) := ho64
      clear ho64
      have sz7 : w6.heap.size ≤ w7.heap.size := h7.size
      have bw7 : Below w.heap.size w w7 := bw6.trans (h7.mono bw6.size)
      have f69 := f53.mono h7
      have f70 := f54.mono h7
      have f71 := f55.mono h7
      have f72 := f56.mono h7
      have f73 := f51.mono h7
      have x74 : w7.cell? ⟨w.heap.size, 0, none⟩ = some (.string (x0).name) := cellB h7 x57
      have x75 : w7.cell? ⟨w.heap.size, 1, none⟩ = some (l0) := cellB h7 x58
      have l76 : w.heap.size < w7.heap.size := by omega
      have x77 : w7.cell? ⟨w5.heap.size, 0, none⟩ = some (.string (x0).name) := cellB h7 x60
      have x78 : w7.cell? ⟨w5.heap.size, 1, none⟩ = some (.slice a37 (x0).tones.length c38) := cellB h7 x61
      have l79 : w5.heap.size < w7.heap.size := by omega
      clear f53 f54 f55 f56 f51 x57 x58 l59 x60 x61 l62
      go_wp2_with fail
      refine (eqIntsK _ _ (feV (x0) (x1)) _ (OwnInts.rd f67) (OwnInts.rd f71)).mono ?_
      rintro e w8 ⟨rfl, h8⟩
      have sz8 : w7.heap.size ≤ w8.heap.size := h8.size
      have bw8 : Below w.heap.size w w8 := bw7.trans (h8.mono bw7.size)
      have f81 := f69.mono h8
      have f82 := f70.mono h8
      have f83 := f71.mono h8
      have f84 := f72.mono h8
      have f85 := f73.mono h8
      have f86 := f67.mono h8
      have x87 : w8.cell? ⟨w.heap.size, 0, none⟩ = some (.string (x0).name) := cellB h8 x74
      have x88 : w8.cell? ⟨w.heap.size, 1, none⟩ = some (l0) := cellB h8 x75
      have l89 : w.heap.size < w8.heap.size := by omega
      have x90 : w8.cell? ⟨w5.heap.size, 0, none⟩ = some (.string (x0).name) := cellB h8 x77
      have x91 : w8.cell? ⟨w5.heap.size, 1, none⟩ = some (.slice a37 (x0).tones.length c38) := cellB h8 x78
      have l92 : w5.heap.size < w8.heap.size := by omega
      clear f69 f70 f71 f72 f73 f67 x74 x75 l76 x77 x78 l79
      go_wp2_with fail
      refine wp_region_ord [(0, true), (1, true), (2, false), (3, false), (4, true)] (none) (by kernel_rfl) (by kernel_rfl) ?_
      (repeat (with_reducible refine wpOrd_soft (fun K hK => ?_); simp only [List.getElem?_toArray, List.getElem?_cons_zero, List.getElem?_cons_succ]; first | (go_simp; refine hK _ ?_) | (simp only [undef]; go_simp; refine hK _ ?_); clear hK K))
      (with_reducible refine wpOrd_hard ?_; simp only [List.getElem?_toArray, List.getElem?_cons_zero, List.getElem?_cons_succ])
      go_wp2_with fail
      refine (toTunK _ (x0) _ (r0.mono (by have hbw := bw8; (repeat (first | with_reducible exact Below.refl _ _ | with_reducible exact hbw | (with_reducible refine Below.setCell ?_ ?_ _; rotate_left; · first | exact Nat.le_refl _ | omega | (simp; done) | (simp; omega)) | (with_reducible refine Below.alloc ?_ ?_ _; rotate_left; · first | exact Nat.le_refl _ | omega | (simp; done) | (simp; omega)) | with_reducible refine below_drewN ?_ _ | with_reducible refine Below.drew ?_)))) q0).mono ?_
      rintro e w9 ⟨v93, rfl, ho94, h9⟩
      obtain ⟨a95, c96, rfl⟩ := ho94.form
      have f97 : OwnTun w8.heap.size w9.heap.size w9 (.agg #[.string (x0).name, .slice a95 (x0).tones.length c96]) (x0) := ho94
      clear ho94
      have st98 : Below w8.heap.size w8 w9 := undrew h9
      have sz9 : w8.heap.size ≤ w9.heap.size := st98.size
      have bw9 : Below w.heap.size w w9 := bw8.trans (st98.mono bw8.size)
      have f99 := f81.mono st98
      have f100 := f82.mono st98
      have f101 := f83.mono st98
      have f102 := f84.mono st98
      have f103 := f85.mono st98
      have f104 := f86.mono st98
      have x105 : w9.cell? ⟨w.heap.size, 0, none⟩ = some (.string (x0).name) := cellB st98 x87
      have x106 : w9.cell? ⟨w.heap.size, 1, none⟩ = some (l0) := cellB st98 x88
      have l107 : w.heap.size < w9.heap.size := by omega
      have x108 : w9.cell? ⟨w5.heap.size, 0, none⟩ = some (.string (x0).name) := cellB st98 x90
      have x109 : w9.cell? ⟨w5.heap.size, 1, none⟩ = some (.slice a37 (x0).tones.length c38) := cellB st98 x91
      have l110 : w5.heap.size < w9.heap.size := by omega
      clear f81 f82 f83 f84 f85 f86 x87 x88 l89 x90 x91 l92 h9
      go_wp2_with fail
      refine ⟨grown_of_below st98, ?_⟩
      (repeat (with_reducible refine wpOrd_soft (fun K hK => ?_); simp only [List.getElem?_toArray, List.getElem?_cons_zero, List.getElem?_cons_succ]; first | (go_simp; refine hK _ ?_) | (simp only [undef]; go_simp; refine hK _ ?_); clear hK K))
      (with_reducible refine wpOrd_hard ?_; simp only [List.getElem?_toArray, List.getElem?_cons_zero, List.getElem?_cons_succ])
      go_wp2_with fail
      refine (eqTunK _ _ (x0) _ (OwnTun.rd f102) (OwnTun.rd f97)).mono ?_
      rintro e w10 ⟨rfl, h10⟩
      have sz10 : w9.heap.size ≤ w10.heap.size := h10.size
      have bw10 : Below w.heap.size w w10 := bw9.trans (h10.mono bw9.size)
      have f112 := f99.mono h10
      have f113 := f100.mono h10
      have f114 := f101.mono h10
      have f115 := f102.mono h10
      have f116 := f103.mono h10
      have f117 := f104.mono h10
      have f118 := f97.mono h10
      have x119 : w10.cell? ⟨w.heap.size, 0, none⟩ = some (.string (x0).name) := cellB h10 x105
      have x120 : w10.cell? ⟨w.heap.size, 1, none⟩ = some (l0) := cellB h10 x106
      have l121 : w.heap.size < w10.heap.size := by omega
      have x122 : w10.cell? ⟨w5.heap.size, 0, none⟩ = some (.string (x0).name) := cellB h10 x108
      have x123 : w10.cell? ⟨w5.heap.size, 1, none⟩ = some (.slice a37 (x0).tones.length c38) := cellB h10 x109
      have l124 : w5.heap.size < w10.heap.size := by omega
      clear f99 f100 f101 f102 f103 f104 f97 x105 x106 l107 x108 x109 l110
      have rg125 : Below w8.heap.size w8 w10 := st98.trans (h10.mono st98.size)
      go_wp2_with fail
      refine ⟨grown_of_below rg125, ?_⟩
      (repeat (with_reducible refine wpOrd_soft (fun K hK => ?_); simp only [List.getElem?_toArray, List.getElem?_cons_zero, List.getElem?_cons_succ]; first | (go_simp; refine hK _ ?_) | (simp only [undef]; go_simp; refine hK _ ?_); clear hK K))
      (with_reducible refine wpOrd_nil ?_); refine NoPanic.normal ?_
      go_wp2_with fail
      refine (toIntsK _ (x1) _ (r1.mono (by have hbw := bw10; (repeat (first | with_reducible exact Below.refl _ _ | with_reducible exact hbw | (with_reducible refine Below.setCell ?_ ?_ _; rotate_left; · first | exact Nat.le_refl _ | omega | (simp; done) | (simp; omega)) | (with_reducible refine Below.alloc ?_ ?_ _; rotate_left; · first | exact Nat.le_refl _ | omega | (simp; done) | (simp; omega)) | with_reducible refine below_drewN ?_ _ | with_reducible refine Below.drew ?_)))) q1).mono ?_
      rintro e w11 ⟨v126, rfl, ho127, h11⟩
      obtain ⟨a128, c129, rfl⟩ := ho127.form
      have f130 : OwnInts w10.heap.size w11.heap.size w11 (.slice a128 (x1).length c129) (x1) := ho127
      clear ho127
      have sz11 : w10.heap.size ≤ w11.heap.size := h11.size
      have bw11 : Below w.heap.size w w11 := bw10.trans (h11.mono bw10.size)
      have f132 := f112.mono h11
      have f133 := f113.mono h11
      have f134 := f114.mono h11
      have f135 := f115.mono h11
      have f136 := f116.mono h11
      have f137 := f117.mono h11
      have f138 := f118.mono h11
      have x139 : w11.cell? ⟨w.heap.size, 0, none⟩ = some (.string (x0).name) := cellB h11 x119
      have x140 : w11.cell? ⟨w.heap.size, 1, none⟩ = some (l0) := cellB h11 x120
      have l141 : w.heap.size < w11.heap.size := by omega
      have x142 : w11.cell? ⟨w5.heap.size, 0, none⟩ = some (.string (x0).name) := cellB h11 x122
      have x143 : w11.cell? ⟨w5.heap.size, 1, none⟩ = some (.slice a37 (x0).tones.length c38) := cellB h11 x123
      have l144 : w5.heap.size < w11.heap.size := by omega
      clear f112 f113 f114 f115 f116 f117 f118 x119 x120 l121 x122 x123 l124
      go_wp2_with fail
      refine (eqIntsK _ _ (x1) _ (OwnInts.rd f136) (OwnInts.rd f130)).mono ?_
      rintro e w12 ⟨rfl, h12⟩
      have sz12 : w11.heap.size ≤ w12.heap.size := h12.size
      have bw12 : Below w.heap.size w w12 := bw11.trans (h12.mono bw11.size)
      have f146 := f132.mono h12
      have f147 := f133.mono h12
      have f148 := f134.mono h12
      have f149 := f135.mono h12
      have f150 := f136.mono h12
      have f151 := f137.mono h12
      have f152 := f138.mono h12
      have f153 := f130.mono h12
      have x154 : w12.cell? ⟨w.heap.size, 0, none⟩ = some (.string (x0).name) := cellB h12 x139
      have x155 : w12.cell? ⟨w.heap.size, 1, none⟩ = some (l0) := cellB h12 x140
      have l156 : w.heap.size < w12.heap.size := by omega
      have x157 : w12.cell? ⟨w5.heap.size, 0, none⟩ = some (.string (x0).name) := cellB h12 x142
      have x158 : w12.cell? ⟨w5.heap.size, 1, none⟩ = some (.slice a37 (x0).tones.length c38) := cellB h12 x143
      have l159 : w5.heap.size < w12.heap.size := by omega
      clear f132 f133 f134 f135 f136 f137 f138 f130 x139 x140 l141 x142 x143 l144
      go_wp2_with fail
      refine (markTunK _ _ _ (x0) (1) _ f149 (by omega) (by have := q0; omega)).mono ?_
      rintro e w13 ⟨rfl, f160, t13⟩
      have sz13 : w12.heap.size ≤ w13.heap.size := t13.size
      have bw13 : Below w.heap.size w w13 := t13.below bw12 (by omega) (by omega)
      have f162 := f146.touch t13 (by omega)
      have f163 := f147.touch t13 (by omega)
      have f164 := f148.touch t13 (by omega)
      have f166 := f150.touch t13 (by omega)
      have f167 := f151.touch t13 (by omega)
      have f168 := f152.touch t13 (by omega)
      have f169 := f153.touch t13 (by omega)
      have x170 : w13.cell? ⟨w.heap.size, 0, none⟩ = some (.string (x0).name) := cellT t13 x154 (by simp only; omega)
      have x171 : w13.cell? ⟨w.heap.size, 1, none⟩ = some (l0) := cellT t13 x155 (by simp only; omega)
      have l172 : w.heap.size < w13.heap.size := by omega
      have x173 : w13.cell? ⟨w5.heap.size, 0, none⟩ = some (.string (x0).name) := cellT t13 x157 (by simp only; omega)
      have x174 : w13.cell? ⟨w5.heap.size, 1, none⟩ = some (.slice a37 (x0).tones.length c38) := cellT t13 x158 (by simp only; omega)
      have l175 : w5.heap.size < w13.heap.size := by omega
      clear f146 f147 f148 f150 f151 f152 f153 x154 x155 l156 x157 x158 l159
      clear f149
      go_wp2_with fail
      refine (markIntsK _ _ _ (x1) (1 + (((x0).tones.length : Int) * 3 : Int)) _ f166 (by omega) (by have := q1; omega)).mono ?_
      rintro e w14 ⟨rfl, f176, t14⟩
      have sz14 : w13.heap.size ≤ w14.heap.size := t14.size
      have bw14 : Below w.heap.size w w14 := t14.below bw13 (by omega) (by omega)
      have f178 := f162.touch t14 (by omega)
      have f179 := f163.touch t14 (by omega)
      have f180 := f164.touch t14 (by omega)
      have f181 := f160.touch t14 (by omega)
      have f183 := f167.touch t14 (by omega)
      have f184 := f168.touch t14 (by omega)
      have f185 := f169.touch t14 (by omega)
      have x186 : w14.cell? ⟨w.heap.size, 0, none⟩ = some (.string (x0).name) := cellT t14 x170 (by simp only; omega)
      have x187 : w14.cell? ⟨w.heap.size, 1, none⟩ = some (l0) := cellT t14 x171 (by simp only; omega)
      have l188 : w.heap.size < w14.heap.size := by omega
      have x189 : w14.cell? ⟨w5.heap.size, 0, none⟩ = some (.string (x0).name) := cellT t14 x173 (by simp only; omega)
      have x190 : w14.cell? ⟨w5.heap.size, 1, none⟩ = some (.slice a37 (x0).tones.length c38) := cellT t14 x174 (by simp only; omega)
      have l191 : w5.heap.size < w14.heap.size := by omega
      clear f162 f163 f164 f160 f167 f168 f169 x170 x171 l172 x173 x174 l175
      clear f166
      go_wp2_with fail
      refine (eqIntsK _ _ (feV (x0) (x1)) _ (OwnInts.rd f183) (OwnInts.rd f180)).mono ?_
      rintro e w15 ⟨rfl, h15⟩
      have sz15 : w14.heap.size ≤ w15.heap.size := h15.size
      have bw15 : Below w.heap.size w w15 := bw14.trans (h15.mono bw14.size)
      have f193 := f178.mono h15
      have f194 := f179.mono h15
      have f195 := f180.mono h15
      have f196 := f181.mono h15
      have f197 := f176.mono h15
      have f198 := f183.mono h15
      have f199 := f184.mono h15
      have f200 := f185.mono h15
      have x201 : w15.cell? ⟨w.heap.size, 0, none⟩ = some (.string (x0).name) := cellB h15 x186
      have x202 : w15.cell? ⟨w.heap.size, 1, none⟩ = some (l0) := cellB h15 x187
      have l203 : w.heap.size < w15.heap.size := by omega
      have x204 : w15.cell? ⟨w5.heap.size, 0, none⟩ = some (.string (x0).name) := cellB h15 x189
      have x205 : w15.cell? ⟨w5.heap.size, 1, none⟩ = some (.slice a37 (x0).tones.length c38) := cellB h15 x190
      have l206 : w5.heap.size < w15.heap.size := by omega
      clear f178 f179 f180 f181 f176 f183 f184 f185 x186 x187 l188 x189 x190 l191
      go_wp2_with fail
      refine (markIntsK _ _ _ (feV (x0) (x1)) (1) _ f198 (by omega) (by have := hbd; omega)).mono ?_
      rintro e w16 ⟨rfl, f207, t16⟩
      have sz16 : w15.heap.size ≤ w16.heap.size := t16.size
      have bw16 : Below w.heap.size w w16 := t16.below bw15 (by omega) (by omega)
      have f209 := f193.touch t16 (by omega)
      have f210 := f194.touch t16 (by omega)
      have f211 := f195.touch t16 (by omega)
      have f212 := f196.touch t16 (by omega)
      have f213 := f197.touch t16 (by omega)
      have f215 := f199.touch t16 (by omega)
      have f216 := f200.touch t16 (by omega)
      have x217 : w16.cell? ⟨w.heap.size, 0, none⟩ = some (.string (x0).name) := cellT t16 x201 (by simp only; omega)
      have x218 : w16.cell? ⟨w.heap.size, 1, none⟩ = some (l0) := cellT t16 x202 (by simp only; omega)
      have l219 : w.heap.size < w16.heap.size := by omega
      have x220 : w16.cell? ⟨w5.heap.size, 0, none⟩ = some (.string (x0).name) := cellT t16 x204 (by simp only; omega)
      have x221 : w16.cell? ⟨w5.heap.size, 1, none⟩ = some (.slice a37 (x0).tones.length c38) := cellT t16 x205 (by simp only; omega)
      have l222 : w5.heap.size < w16.heap.size := by omega
      clear f193 f194 f195 f196 f197 f199 f200 x201 x202 l203 x204 x205 l206
      clear f198
      go_wp2_with fail
      refine (heldIntsK _ _ _ (feV (x0) (x1)) (1) _ f207 (by omega) (by have := hbd; omega)).mono ?_
      rintro e w17 ⟨rfl, h17⟩
      have sz17 : w16.heap.size ≤ w17.heap.size := h17.size
      have bw17 : Below w.heap.size w w17 := bw16.trans (h17.mono bw16.size)
      have f224 := f209.mono h17
      have f225 := f210.mono h17
      have f226 := f211.mono h17
      have f227 := f212.mono h17
      have f228 := f213.mono h17
      have f229 := f207.mono h17
      have f230 := f215.mono h17
      have f231 := f216.mono h17
      have x232 : w17.cell? ⟨w.heap.size, 0, none⟩ = some (.string (x0).name) := cellB h17 x217
      have x233 : w17.cell? ⟨w.heap.size, 1, none⟩ = some (l0) := cellB h17 x218
      have l234 : w.heap.size < w17.heap.size := by omega
      have x235 : w17.cell? ⟨w5.heap.size, 0, none⟩ = some (.string (x0).name) := cellB h17 x220
      have x236 : w17.cell? ⟨w5.heap.size, 1, none⟩ = some (.slice a37 (x0).tones.length c38) := cellB h17 x221
      have l237 : w5.heap.size < w17.heap.size := by omega
      clear f209 f210 f211 f212 f213 f207 f215 f216 x217 x218 l219 x220 x221 l222
      go_wp2_with fail
      refine (toTunK _ (x0) _ (r0.mono (by have hbw := bw17; (repeat (first | with_reducible exact Below.refl _ _ | with_reducible exact hbw | (with_reducible refine Below.setCell ?_ ?_ _; rotate_left; · first | exact Nat.le_refl _ | omega | (simp; done) | (simp; omega)) | (with_reducible refine Below.alloc ?_ ?_ _; rotate_left; · first | exact Nat.le_refl _ | omega | (simp; done) | (simp; omega)) | with_reducible refine below_drewN ?_ _ | with_reducible refine Below.drew ?_)))) q0).mono ?_
      rintro e w18 ⟨v238, rfl, ho239, h18⟩
      obtain ⟨a240, c241, rfl⟩ := ho239.form
      have f242 : OwnTun w17.heap.size w18.heap.size w18 (.agg #[.string (x0).name, .slice a240 (x0).tones.length c241]) (x0) := ho239
      clear ho239
      have sz18 : w17.heap.size ≤ w18.heap.size := h18.size
      have bw18 : Below w.heap.size w w18 := bw17.trans (h18.mono bw17.size)
      have f244 := f224.mono h18
      have f245 := f225.mono h18
      have f246 := f226.mono h18
      have f247 := f227.mono h18
      have f248 := f228.mono h18
      have f249 := f229.mono h18
      have f250 := f230.mono h18
      have f251 := f231.mono h18
      have x252 : w18.cell? ⟨w.heap.size, 0, none⟩ = some (.string (x0).name) := cellB h18 x232
      have x253 : w18.cell? ⟨w.heap.size, 1, none⟩ = some (l0) := cellB h18 x233
      have l254 : w.heap.size < w18.heap.size := by omega
      have x255 : w18.cell? ⟨w5.heap.size, 0, none⟩ = some (.string (x0).name) := cellB h18 x235
      have x256 : w18.cell? ⟨w5.heap.size, 1, none⟩ = some (.slice a37 (x0).tones.length c38) := cellB h18 x236
      have l257 : w5.heap.size < w18.heap.size := by omega
      clear f224 f225 f226 f227 f228 f229 f230 f231 x232 x233 l234 x235 x236 l237
      go_wp2_with fail
      refine (toIntsK _ (x1) _ (r1.mono (by have hbw := bw18; (repeat (first | with_reducible exact Below.refl _ _ | with_reducible exact hbw | (with_reducible refine Below.setCell ?_ ?_ _; rotate_left; · first | exact Nat.le_refl _ | omega | (simp; done) | (simp; omega)) | (with_reducible refine Below.alloc ?_ ?_ _; rotate_left; · first | exact Nat.le_refl _ | omega | (simp; done) | (simp; omega)) | with_reducible refine below_drewN ?_ _ | with_reducible refine Below.drew ?_)))) q1).mono ?_
      rintro e w19 ⟨v258, rfl, ho259, h19⟩
      obtain ⟨a260, c261, rfl⟩ := ho259.form
      have f262 : OwnInts w18.heap.size w19.heap.size w19 (.slice a260 (x1).length c261) (x1) := ho259
      clear ho259
      have sz19 : w18.heap.size ≤ w19.heap.size := h19.size
      have bw19 : Below w.heap.size w w19 := bw18.trans (h19.mono bw18.size)
      have f264 := f244.mono h19
      have f265 := f245.mono h19
      have f266 := f246.mono h19
      have f267 := f247.mono h19
      have f268 := f248.mono h19
      have f269 := f249.mono h19
      have f270 := f250.mono h19
      have f271 := f251.mono h19
      have f272 := f242.mono h19
      have x273 : w19.cell? ⟨w.heap.size, 0, none⟩ = some (.string (x0).name) := cellB h19 x252
      have x274 : w19.cell? ⟨w.heap.size, 1, none⟩ = some (l0) := cellB h19 x253
      have l275 : w.heap.size < w19.heap.size := by omega
      have x276 : w19.cell? ⟨w5.heap.size, 0, none⟩ = some (.string (x0).name) := cellB h19 x255
      have x277 : w19.cell? ⟨w5.heap.size, 1, none⟩ = some (.slice a37 (x0).tones.length c38) := cellB h19 x256
      have l278 : w5.heap.size < w19.heap.size := by omega
      clear f244 f245 f246 f247 f248 f249 f250 f251 f242 x252 x253 l254 x255 x256 l257
      go_wp2_with fail
      refine (implFewestExtra_any _ (x0) _ (x1) _ (OwnTun.rd f272) o0 q0 (OwnInts.rd f262) o1 q1).mono ?_
      rintro e w20 ⟨v279, rfl, ho280, h20⟩
      obtain ⟨a281, c282, rfl⟩ := ho280.form
      have f283 : OwnInts w19.heap.size w20.heap.size w20 (.slice a281 (feV (x0) (x1)).length c282) (feV (x0) (x1)) := ho280
      clear ho280
      have sz20 : w19.heap.size ≤ w20.heap.size := h20.size
      have bw20 : Below w.heap.size w w20 := bw19.trans (h20.mono bw19.size)
      have f285 := f264.mono h20
      have f286 := f265.mono h20
      have f287 := f266.mono h20
      have f288 := f267.mono h20
      have f289 := f268.mono h20
      have f290 := f269.mono h20
      have f291 := f270.mono h20
      have f292 := f271.mono h20
      have f293 := f272.mono h20
      have f294 := f262.mono h20
      have x295 : w20.cell? ⟨w.heap.size, 0, none⟩ = some (.string (x0).name) := cellB h20 x273
      have x296 : w20.cell? ⟨w.heap.size, 1, none⟩ = some (l0) := cellB h20 x274
      have l297 : w.heap.size < w20.heap.size := by omega
      have x298 : w20.cell? ⟨w5.heap.size, 0, none⟩ = some (.string (x0).name) := cellB h20 x276
      have x299 : w20.cell? ⟨w5.heap.size, 1, none⟩ = some (.slice a37 (x0).tones.length c38) := cellB h20 x277
      have l300 : w5.heap.size < w20.heap.size := by omega
      clear f264 f265 f266 f267 f268 f269 f270 f271 f272 f262 x273 x274 l275 x276 x277 l278
      go_wp2_with fail
      refine (eqIntsK _ _ (feV (x0) (x1)) _ (OwnInts.rd f283) (OwnInts.rd f287)).mono ?_
      rintro e w21 ⟨rfl, h21⟩
      have sz21 : w20.heap.size ≤ w21.heap.size := h21.size
      have bw21 : Below w.heap.size w w21 := bw20.trans (h21.mono bw20.size)
      have f302 := f285.mono h21
      have f303 := f286.mono h21
      have f304 := f287.mono h21
      have f305 := f288.mono h21
      have f306 := f289.mono h21
      have f307 := f290.mono h21
      have f308 := f291.mono h21
      have f309 := f292.mono h21
      have f310 := f293.mono h21
      have f311 := f294.mono h21
      have f312 := f283.mono h21
      have x313 : w21.cell? ⟨w.heap.size, 0, none⟩ = some (.string (x0).name) := cellB h21 x295
      have x314 : w21.cell? ⟨w.heap.size, 1, none⟩ = some (l0) := cellB h21 x296
      have l315 : w.heap.size < w21.heap.size := by omega
      have x316 : w21.cell? ⟨w5.heap.size, 0, none⟩ = some (.string (x0).name) := cellB h21 x298
      have x317 : w21.cell? ⟨w5.heap.size, 1, none⟩ = some (.slice a37 (x0).tones.length c38) := cellB h21 x299
      have l318 : w5.heap.size < w21.heap.size := by omega
      clear f285 f286 f287 f288 f289 f290 f291 f292 f293 f294 f283 x295 x296 l297 x298 x299 l300
      go_wp2_with fail
      refine (heldIntsK _ _ _ (feV (x0) (x1)) (1) _ f307 (by omega) (by have := hbd; omega)).mono ?_
      rintro e w22 ⟨rfl, h22⟩
      have sz22 : w21.heap.size ≤ w22.heap.size := h22.size
      have bw22 : Below w.heap.size w w22 := bw21.trans (h22.mono bw21.size)
      have f320 := f302.mono h22
      have f321 := f303.mono h22
      have f322 := f304.mono h22
      have f323 := f305.mono h22
      have f324 := f306.mono h22
      have f325 := f307.mono h22
      have f326 := f308.mono h22
      have f327 := f309.mono h22
      have f328 := f310.mono h22
      have f329 := f311.mono h22
      have f330 := f312.mono h22
      have x331 : w22.cell? ⟨w.heap.size, 0, none⟩ = some (.string (x0).name) := cellB h22 x313
      have x332 : w22.cell? ⟨w.heap.size, 1, none⟩ = some (l0) := cellB h22 x314
      have l333 : w.heap.size < w22.heap.size := by omega
      have x334 : w22.cell? ⟨w5.heap.size, 0, none⟩ = some (.string (x0).name) := cellB h22 x316
      have x335 : w22.cell? ⟨w5.heap.size, 1, none⟩ = some (.slice a37 (x0).tones.length c38) := cellB h22 x317
      have l336 : w5.heap.size < w22.heap.size := by omega
      clear f302 f303 f304 f305 f306 f307 f308 f309 f310 f311 f312 x313 x314 l315 x316 x317 l318
      go_wp2
      go_ret
      exact ⟨rfl, bw22⟩
    · skip
      go_enter Try.func9, Try.ntmps9
      go_wp2_with fail
      refine (szTunN _ (x0) (1048576) _ (r0.mono (by (repeat (first | with_reducible exact Below.refl _ _ | with_reducible exact hbw | (with_reducible refine Below.setCell ?_ ?_ _; rotate_left; · first | exact Nat.le_refl _ | omega | (simp; done) | (simp; omega)) | (with_reducible refine Below.alloc ?_ ?_ _; rotate_left; · first | exact Nat.le_refl _ | omega | (simp; done) | (simp; omega)) | with_reducible refine below_drewN ?_ _ | with_reducible refine Below.drew ?_)))) o0 (by omega) (by omega) (by omega)).mono ?_
      rintro e w1 ⟨rfl, h1⟩
      have bw1 : Below w.heap.size w w1 := Below.trans (by (repeat (first | with_reducible exact Below.refl _ _ | with_reducible exact hbw | (with_reducible refine Below.setCell ?_ ?_ _; rotate_left; · first | exact Nat.le_refl _ | omega | (simp; done) | (simp; omega)) | (with_reducible refine Below.alloc ?_ ?_ _; rotate_left; · first | exact Nat.le_refl _ | omega | (simp; done) | (simp; omega)) | with_reducible refine below_drewN ?_ _ | with_reducible refine Below.drew ?_))) (h1.mono (by simp <;> omega))
      go_wp2
      go_ret
      exact ⟨rfl, bw1⟩
  · skip
    go_enter Try.func9, Try.ntmps9
    go_wp2
    go_ret
    refine ⟨rfl, ?_⟩
    (repeat (first | with_reducible exact Below.refl _ _ | with_reducible exact hbw | (with_reducible refine Below.setCell ?_ ?_ _; rotate_left; · first | exact Nat.le_refl _ | omega | (simp; done) | (simp; omega)) | (with_reducible refine Below.alloc ?_ ?_ _; rotate_left; · first | exact Nat.le_refl _ | omega | (simp; done) | (simp; omega)) | with_reducible refine below_drewN ?_ _ | with_reducible refine Below.drew ?_))

end Go.Proofs.Ytgelilelmmocgaa
