/- The law FnExactFastRepeats returns true and leaves memory as it was. -/
import Derived.Test.YtgelilelmmocgaaFastS
import Derived.Test.YtgelilelmmocgaaKTun
import Derived.Test.YtgelilelmmocgaaKIntsEq
import Derived.Test.YtgelilelmmocgaaKIntsM
set_option linter.unusedSimpArgs false
set_option linter.unnecessarySimpa false
set_option linter.unusedVariables false
set_option maxRecDepth 100000
namespace Go.Proofs.Ytgelilelmmocgaa
open Go.RowKit

set_option maxHeartbeats 4000000 in
theorem lawFastRepeats (w : World) (v0 : Value) (y0 : Value × TunD) (h0 : Tun w v0 y0.1 y0.2) (o0 : y0.2.ok) (n1 : Int) (o1 : I64 n1) :
    Calls Try.prog 10 #[v0, .int .i64 n1] w fun e w' => e = .returned (.bool true) ∧ Below w.heap.size w w' := by
  obtain ⟨l0, x0⟩ := y0
  obtain ⟨rfl, hl0⟩ := h0
  simp only at hl0 o0 ⊢
  have r0 : RdTun w (.agg #[.string (x0).name, l0]) x0 := ⟨l0, rfl, hl0⟩
  by_cases g0 : szTun x0 ≤ 1048576
  · skip
    have q0 : (x0).tones.length ≤ 1048576 := by have := g0; unfold szTun at this; omega
    have hbd := fr_len x0 n1
    go_enter Try.func10, Try.ntmps10
    go_wp2_with fail
    refine (szTunY _ (x0) (1048576) _ (r0.mono (by (repeat (first | with_reducible exact Below.refl _ _ | with_reducible exact hbw | (with_reducible refine Below.setCell ?_ ?_ _; rotate_left; · first | exact Nat.le_refl _ | omega | (simp; done) | (simp; omega)) | (with_reducible refine Below.alloc ?_ ?_ _; rotate_left; · first | exact Nat.le_refl _ | omega | (simp; done) | (simp; omega)) | with_reducible refine below_drewN ?_ _ | with_reducible refine Below.drew ?_)))) o0 (by omega) (by omega) (by omega)).mono ?_
    rintro e w1 ⟨rfl, h1⟩
    have st1 : Below w.heap.size w w1 := Below.trans (by (repeat (first | with_reducible exact Below.refl _ _ | with_reducible exact hbw | (with_reducible refine Below.setCell ?_ ?_ _; rotate_left; · first | exact Nat.le_refl _ | omega | (simp; done) | (simp; omega)) | (with_reducible refine Below.alloc ?_ ?_ _; rotate_left; · first | exact Nat.le_refl _ | omega | (simp; done) | (simp; omega)) | with_reducible refine below_drewN ?_ _ | with_reducible refine Below.drew ?_))) (h1.mono (by first | exact Nat.le_refl _ | omega | (simp; done) | (simp; omega)))
    have sz1 : w.heap.size + 1 ≤ w1.heap.size := by have := h1.size; simp at this ⊢; omega
    have bw1 : Below w.heap.size w w1 := st1
    have x2 : w1.cell? ⟨w.heap.size, 0, none⟩ = some (.string (x0).name) := cellB h1 (by simp [go_sem])
    have x3 : w1.cell? ⟨w.heap.size, 1, none⟩ = some (l0) := cellB h1 (by simp [go_sem])
    have l4 : w.heap.size < w1.heap.size := by omega
    clear h1
    go_wp2_with fail
    refine (toTunK _ (x0) _ (r0.mono (by have hbw := bw1; (repeat (first | with_reducible exact Below.refl _ _ | with_reducible exact hbw | (with_reducible refine Below.setCell ?_ ?_ _; rotate_left; · first | exact Nat.le_refl _ | omega | (simp; done) | (simp; omega)) | (with_reducible refine Below.alloc ?_ ?_ _; rotate_left; · first | exact Nat.le_refl _ | omega | (simp; done) | (simp; omega)) | with_reducible refine below_drewN ?_ _ | with_reducible refine Below.drew ?_)))) q0).mono ?_
    rintro e w2 ⟨v5, rfl, ho6, h2⟩
    obtain ⟨a7, c8, rfl⟩ := ho6.form
    have f9 : OwnTun w1.heap.size w2.heap.size w2 (.agg #[.string (x0).name, .slice a7 (x0).tones.length c8]) (x0) := ho6
    clear ho6
    have sz2 : w1.heap.size ≤ w2.heap.size := h2.size
    have bw2 : Below w.heap.size w w2 := bw1.trans (h2.mono bw1.size)
    have x11 : w2.cell? ⟨w.heap.size, 0, none⟩ = some (.string (x0).name) := cellB h2 x2
    have x12 : w2.cell? ⟨w.heap.size, 1, none⟩ = some (l0) := cellB h2 x3
    have l13 : w.heap.size < w2.heap.size := by omega
    clear x2 x3 l4
    go_wp2_with fail
    refine (specFastRepeats_any _ (x0) (n1) _ (OwnTun.rd f9) o0 q0 o1).mono ?_
    rintro e w3 ⟨v14, rfl, ho15, h3⟩
    obtain ⟨a16, c17, rfl⟩ := ho15.form
    have f18 : OwnInts w2.heap.size w3.heap.size w3 (.slice a16 (frV (x0) (n1)).length c17) (frV (x0) (n1)) := ho15
    clear ho15
    have sz3 : w2.heap.size ≤ w3.heap.size := h3.size
    have bw3 : Below w.heap.size w w3 := bw2.trans (h3.mono bw2.size)
    have f20 := f9.mono h3
    have x21 : w3.cell? ⟨w.heap.size, 0, none⟩ = some (.string (x0).name) := cellB h3 x11
    have x22 : w3.cell? ⟨w.heap.size, 1, none⟩ = some (l0) := cellB h3 x12
    have l23 : w.heap.size < w3.heap.size := by omega
    clear f9 x11 x12 l13
    go_wp2_with fail
    refine (toTunK _ (x0) _ (r0.mono (by have hbw := bw3; (repeat (first | with_reducible exact Below.refl _ _ | with_reducible exact hbw | (with_reducible refine Below.setCell ?_ ?_ _; rotate_left; · first | exact Nat.le_refl _ | omega | (simp; done) | (simp; omega)) | (with_reducible refine Below.alloc ?_ ?_ _; rotate_left; · first | exact Nat.le_refl _ | omega | (simp; done) | (simp; omega)) | with_reducible refine below_drewN ?_ _ | with_reducible refine Below.drew ?_)))) q0).mono ?_
    rintro e w4 ⟨v24, rfl, ho25, h4⟩
    obtain ⟨a26, c27, rfl⟩ := ho25.form
    have f28 : OwnTun w3.heap.size w4.heap.size w4 (.agg #[.string (x0).name, .slice a26 (x0).tones.length c27]) (x0) := ho25
    clear ho25
    have sz4 : w3.heap.size ≤ w4.heap.size := h4.size
    have bw4 : Below w.heap.size w w4 := bw3.trans (h4.mono bw3.size)
    have f30 := f20.mono h4
    have f31 := f18.mono h4
    have x32 : w4.cell? ⟨w.heap.size, 0, none⟩ = some (.string (x0).name) := cellB h4 x21
    have x33 : w4.cell? ⟨w.heap.size, 1, none⟩ = some (l0) := cellB h4 x22
    have l34 : w.heap.size < w4.heap.size := by omega
    clear f20 f18 x21 x22 l23
    go_wp2_with fail
    refine (implFastRepeats_any _ (x0) (n1) _ ((OwnTun.rd f28).mono (by (repeat (first | with_reducible exact Below.refl _ _ | with_reducible exact hbw | (with_reducible refine Below.setCell ?_ ?_ _; rotate_left; · first | exact Nat.le_refl _ | omega | (simp; done) | (simp; omega)) | (with_reducible refine Below.alloc ?_ ?_ _; rotate_left; · first | exact Nat.le_refl _ | omega | (simp; done) | (simp; omega)) | with_reducible refine below_drewN ?_ _ | with_reducible refine Below.drew ?_)))) o0 q0 o1).mono ?_
    rintro e w5 ⟨v35, rfl, ho36, h5⟩
    obtain ⟨a37, c38, rfl⟩ := ho36.form
    have f39 : OwnInts (w4.heap.size + 1) w5.heap.size w5 (.slice a37 (frV (x0) (n1)).length c38) (frV (x0) (n1)) := ho36.wide (by simp) (Nat.le_refl _)
    clear ho36
    have st40 : Below w4.heap.size w4 w5 := Below.trans (by (repeat (first | with_reducible exact Below.refl _ _ | with_reducible exact hbw | (with_reducible refine Below.setCell ?_ ?_ _; rotate_left; · first | exact Nat.le_refl _ | omega | (simp; done) | (simp; omega)) | (with_reducible refine Below.alloc ?_ ?_ _; rotate_left; · first | exact Nat.le_refl _ | omega | (simp; done) | (simp; omega)) | with_reducible refine below_drewN ?_ _ | with_reducible refine Below.drew ?_))) (h5.mono (by first | exact Nat.le_refl _ | omega | (simp; done) | (simp; omega)))
    have sz5 : w4.heap.size + 1 ≤ w5.heap.size := by have := h5.size; simp at this ⊢; omega
    have bw5 : Below w.heap.size w w5 := bw4.trans (st40.mono bw4.size)
    have f41 := f30.mono st40
    have f42 := f31.mono st40
    have f43 := f28.mono st40
    have x44 : w5.cell? ⟨w.heap.size, 0, none⟩ = some (.string (x0).name) := cellB st40 x32
    have x45 : w5.cell? ⟨w.heap.size, 1, none⟩ = some (l0) := cellB st40 x33
    have l46 : w.heap.size < w5.heap.size := by omega
    have x47 : w5.cell? ⟨w4.heap.size, 0, none⟩ = some (.string (x0).name) := cellB h5 (by simp [go_sem])
    have x48 : w5.cell? ⟨w4.heap.size, 1, none⟩ = some (.slice a26 (x0).tones.length c27) := cellB h5 (by simp [go_sem])
    have l49 : w4.heap.size < w5.heap.size := by omega
    clear f30 f31 f28 x32 x33 l34 h5
    go_wp2_with fail
    refine (eqIntsK _ _ (frV (x0) (n1)) _ (OwnInts.rd f39) (OwnInts.rd f42)).mono ?_
    rintro e w6 ⟨rfl, h6⟩
    have sz6 : w5.heap.size ≤ w6.heap.size := h6.size
    have bw6 : Below w.heap.size w w6 := bw5.trans (h6.mono bw5.size)
    have f51 := f41.mono h6
    have f52 := f42.mono h6
    have f53 := f43.mono h6
    have f54 := f39.mono h6
    have x55 : w6.cell? ⟨w.heap.size, 0, none⟩ = some (.string (x0).name) := cellB h6 x44
    have x56 : w6.cell? ⟨w.heap.size, 1, none⟩ = some (l0) := cellB h6 x45
    have l57 : w.heap.size < w6.heap.size := by omega
    have x58 : w6.cell? ⟨w4.heap.size, 0, none⟩ = some (.string (x0).name) := cellB h6 x47
    have x59 : w6.cell? ⟨w4.heap.size, 1, none⟩ = some (.slice a26 (x0).tones.length c27) := cellB h6 x48
    have l60 : w4.heap.size < w6.heap.size := by omega
    clear f41 f42 f43 f39 x44 x45 l46 x47 x48 l49
    go_wp2_with fail
    refine wp_region_ord [(0, true), (1, true), (2, false), (3, false), (4, true)] (none) (by kernel_rfl) (by kernel_rfl) ?_
    (repeat (with_reducible refine wpOrd_soft (fun K hK => ?_); simp only [List.getElem?_toArray, List.getElem?_cons_zero, List.getElem?_cons_succ]; first | (go_simp; refine hK _ ?_) | (simp only [undef]; go_simp; refine hK _ ?_); clear hK K))
    (with_reducible refine wpOrd_hard ?_; simp only [List.getElem?_toArray, List.getElem?_cons_zero, List.getElem?_cons_succ])
    go_wp2_with fail
    refine (toTunK _ (x0) _ (r0.mono (by have hbw := bw6; (repeat (first | with_reducible exact Below.refl _ _ | with_reducible exact hbw | (with_reducible refine Below.setCell ?_ ?_ _; rotate_left; · first | exact Nat.le_refl _ | omega | (simp; done) | (simp; omega)) | (with_reducible refine Below.alloc ?_ ?_ _; rotate_left; · first | exact Nat.le_refl _ | omega | (simp; done) | (simp; omega)) | with_reducible refine below_drewN ?_ _ | with_reducible refine Below.drew ?_)))) q0).mono ?_
    rintro e w7 ⟨v61, rfl, ho62, h7⟩
    obtain ⟨a63, c64, rfl⟩ := ho62.form
    have f65 : OwnTun w6.heap.size w7.heap.size w7 (.agg #[.string (x0).name, .slice a63 (x0).tones.length c64]) (x0) := ho62
    clear ho62
    have st66 : Below w6.heap.size w6 w7 := undrew h7
    have sz7 : w6.heap.size ≤ w7.heap.size := st66.size
    have bw7 : Below w.heap.size w w7 := bw6.trans (st66.mono bw6.size)
    have f67 := f51.mono st66
    have f68 := f52.mono st66
    have f69 := f53.mono st66
    have f70 := f54.mono st66
    have x71 : w7.cell? ⟨w.heap.size, 0, none⟩ = some (.string (x0).name) := cellB st66 x55
    have x72 : w7.cell? ⟨w.heap.size, 1, none⟩ = some (l0) := cellB st66 x56
    have l73 : w.heap.size < w7.heap.size := by omega
    have x74 : w7.cell? ⟨w4.heap.size, 0, none⟩ = some (.string (x0).name) := cellB st66 x58
    have x75 : w7.cell? ⟨w4.heap.size, 1, none⟩ = some (.slice a26 (x0).tones.length c27) := cellB st66 x59
    have l76 : w4.heap.size < w7.heap.size := by omega
    clear f51 f52 f53 f54 x55 x56 l57 x58 x59 l60 h7
    go_wp2_with fail
    refine ⟨grown_of_below st66, ?_⟩
    (repeat (with_reducible refine wpOrd_soft (fun K hK => ?_); simp only [List.getElem?_toArray, List.getElem?_cons_zero, List.getElem?_cons_succ]; first | (go_simp; refine hK _ ?_) | (simp only [undef]; go_simp; refine hK _ ?_); clear hK K))
    (with_reducible refine wpOrd_hard ?_; simp only [List.getElem?_toArray, List.getElem?_cons_zero, List.getElem?_cons_succ])
    go_wp2_with fail
    refine (eqTunK _ _ (x0) _ (OwnTun.rd f69) (OwnTun.rd f65)).mono ?_
    rintro e w8 ⟨rfl, h8⟩
    have sz8 : w7.heap.size ≤ w8.heap.size := h8.size
    have bw8 : Below w.heap.size w w8 := bw7.trans (h8.mono bw7.size)
    have f78 := f67.mono h8
    have f79 := f68.mono h8
    have f80 := f69.mono h8
    have f81 := f70.mono h8
    have f82 := f65.mono h8
    have x83 : w8.cell? ⟨w.heap.size, 0, none⟩ = some (.string (x0).name) := cellB h8 x71
    have x84 : w8.cell? ⟨w.heap.size, 1, none⟩ = some (l0) := cellB h8 x72
    have l85 : w.heap.size < w8.heap.size := by omega
    have x86 : w8.cell? ⟨w4.heap.size, 0, none⟩ = some (.string (x0).name) := cellB h8 x74
    have x87 : w8.cell? ⟨w4.heap.size, 1, none⟩ = some (.slice a26 (x0).tones.length c27) := cellB h8 x75
    have l88 : w4.heap.size < w8.heap.size := by omega
    clear f67 f68 f69 f70 f65 x71 x72 l73 x74 x75 l76
    have rg89 : Below w6.heap.size w6 w8 := st66.trans (h8.mono st66.size)
    go_wp2_with fail
    refine ⟨grown_of_below rg89, ?_⟩
    (repeat (with_reducible refine wpOrd_soft (fun K hK => ?_); simp only [List.getElem?_toArray, List.getElem?_cons_zero, List.getElem?_cons_succ]; first | (go_simp; refine hK _ ?_) | (simp only [undef]; go_simp; refine hK _ ?_); clear hK K))
    (with_reducible refine wpOrd_nil ?_); refine NoPanic.normal ?_
    go_wp2_with fail
    refine (markTunK _ _ _ (x0) (1) _ f80 (by omega) (by have := q0; omega)).mono ?_
    rintro e w9 ⟨rfl, f90, t9⟩
    have sz9 : w8.heap.size ≤ w9.heap.size := t9.size
    have bw9 : Below w.heap.size w w9 := t9.below bw8 (by omega) (by omega)
    have f92 := f78.touch t9 (by omega)
    have f93 := f79.touch t9 (by omega)
    have f95 := f81.touch t9 (by omega)
    have f96 := f82.touch t9 (by omega)
    have x97 : w9.cell? ⟨w.heap.size, 0, none⟩ = some (.string (x0).name) := cellT t9 x83 (by simp only; omega)
    have x98 : w9.cell? ⟨w.heap.size, 1, none⟩ = some (l0) := cellT t9 x84 (by simp only; omega)
    have l99 : w.heap.size < w9.heap.size := by omega
    have x100 : w9.cell? ⟨w4.heap.size, 0, none⟩ = some (.string (x0).name) := cellT t9 x86 (by simp only; omega)
    have x101 : w9.cell? ⟨w4.heap.size, 1, none⟩ = some (.slice a26 (x0).tones.length c27) := cellT t9 x87 (by simp only; omega)
    have l102 : w4.heap.size < w9.heap.size := by omega
    clear f78 f79 f81 f82 x83 x84 l85 x86 x87 l88
    clear f80
    go_wp2_with fail
    refine (eqIntsK _ _ (frV (x0) (n1)) _ (OwnInts.rd f95) (OwnInts.rd f93)).mono ?_
    rintro e w10 ⟨rfl, h10⟩
    have sz10 : w9.heap.size ≤ w10.heap.size := h10.size
    have bw10 : Below w.heap.size w w10 := bw9.trans (h10.mono bw9.size)
    have f104 := f92.mono h10
    have f105 := f93.mono h10
    have f106 := f90.mono h10
    have f107 := f95.mono h10
    have f108 := f96.mono h10
    have x109 : w10.cell? ⟨w.heap.size, 0, none⟩ = some (.string (x0).name) := cellB h10 x97
    have x110 : w10.cell? ⟨w.heap.size, 1, none⟩ = some (l0) := cellB h10 x98
    have l111 : w.heap.size < w10.heap.size := by omega
    have x112 : w10.cell? ⟨w4.heap.size, 0, none⟩ = some (.string (x0).name) := cellB h10 x100
    have x113 : w10.cell? ⟨w4.heap.size, 1, none⟩ = some (.slice a26 (x0).tones.length c27) := cellB h10 x101
    have l114 : w4.heap.size < w10.heap.size := by omega
    clear f92 f93 f90 f95 f96 x97 x98 l99 x100 x101 l102
    go_wp2_with fail
    refine (markIntsK _ _ _ (frV (x0) (n1)) (1) _ f107 (by omega) (by have := hbd; omega)).mono ?_
    rintro e w11 ⟨rfl, f115, t11⟩
    have sz11 : w10.heap.size ≤ w11.heap.size := t11.size
    have bw11 : Below w.heap.size w w11 := t11.below bw10 (by omega) (by omega)
    have f117 := f104.touch t11 (by omega)
    have f118 := f105.touch t11 (by omega)
    have f119 := f106.touch t11 (by omega)
    have f121 := f108.touch t11 (by omega)
    have x122 : w11.cell? ⟨w.heap.size, 0, none⟩ = some (.string (x0).name) := cellT t11 x109 (by simp only; omega)
    have x123 : w11.cell? ⟨w.heap.size, 1, none⟩ = some (l0) := cellT t11 x110 (by simp only; omega)
    have l124 : w.heap.size < w11.heap.size := by omega
    have x125 : w11.cell? ⟨w4.heap.size, 0, none⟩ = some (.string (x0).name) := cellT t11 x112 (by simp only; omega)
    have x126 : w11.cell? ⟨w4.heap.size, 1, none⟩ = some (.slice a26 (x0).tones.length c27) := cellT t11 x113 (by simp only; omega)
    have l127 : w4.heap.size < w11.heap.size := by omega
    clear f104 f105 f106 f108 x109 x110 l111 x112 x113 l114
    clear f107
    go_wp2_with fail
    refine (heldIntsK _ _ _ (frV (x0) (n1)) (1) _ f115 (by omega) (by have := hbd; omega)).mono ?_
    rintro e w12 ⟨rfl, h12⟩
    have sz12 : w11.heap.size ≤ w12.heap.size := h12.size
    have bw12 : Below w.heap.size w w12 := bw11.trans (h12.mono bw11.size)
    have f129 := f117.mono h12
    have f130 := f118.mono h12
    have f131 := f119.mono h12
    have f132 := f115.mono h12
    have f133 := f121.mono h12
    have x134 : w12.cell? ⟨w.heap.size, 0, none⟩ = some (.string (x0).name) := cellB h12 x122
    have x135 : w12.cell? ⟨w.heap.size, 1, none⟩ = some (l0) := cellB h12 x123
    have l136 : w.heap.size < w12.heap.size := by omega
    have x137 : w12.cell? ⟨w4.heap.size, 0, none⟩ = some (.string (x0).name) := cellB h12 x125
    have x138 : w12.cell? ⟨w4.heap.size, 1, none⟩ = some (.slice a26 (x0).tones.length c27) := cellB h12 x126
    have l139 : w4.heap.size < w12.heap.size := by omega
    clear f117 f118 f119 f115 f121 x122 x123 l124 x125 x126 l127
    go_wp2_with fail
    refine (toTunK _ (x0) _ (r0.mono (by have hbw := bw12; (repeat (first | with_reducible exact Below.refl _ _ | with_reducible exact hbw | (with_reducible refine Below.setCell ?_ ?_ _; rotate_left; · first | exact Nat.le_refl _ | omega | (simp; done) | (simp; omega)) | (with_reducible refine Below.alloc ?_ ?_ _; rotate_left; · first | exact Nat.le_refl _ | omega | (simp; done) | (simp; omega)) | with_reducible refine below_drewN ?_ _ | with_reducible refine Below.drew ?_)))) q0).mono ?_
    rintro e w13 ⟨v140, rfl, ho141, h13⟩
    obtain ⟨a142, c143, rfl⟩ := ho141.form
    have f144 : OwnTun w12.heap.size w13.heap.size w13 (.agg #[.string (x0).name, .slice a142 (x0).tones.length c143]) (x0) := ho141
    clear ho141
    have sz13 : w12.heap.size ≤ w13.heap.size := h13.size
    have bw13 : Below w.heap.size w w13 := bw12.trans (h13.mono bw12.size)
    have f146 := f129.mono h13
    have f147 := f130.mono h13
    have f148 := f131.mono h13
    have f149 := f132.mono h13
    have f150 := f133.mono h13
    have x151 : w13.cell? ⟨w.heap.size, 0, none⟩ = some (.string (x0).name) := cellB h13 x134
    have x152 : w13.cell? ⟨w.heap.size, 1, none⟩ = some (l0) := cellB h13 x135
    have l153 : w.heap.size < w13.heap.size := by omega
    have x154 : w13.cell? ⟨w4.heap.size, 0, none⟩ = some (.string (x0).name) := cellB h13 x137
    have x155 : w13.cell? ⟨w4.heap.size, 1, none⟩ = some (.slice a26 (x0).tones.length c27) := cellB h13 x138
    have l156 : w4.heap.size < w13.heap.size := by omega
    clear f129 f130 f131 f132 f133 x134 x135 l136 x137 x138 l139
    go_wp2_with fail
    refine (implFastRepeats_any _ (x0) (n1) _ (OwnTun.rd f144) o0 q0 o1).mono ?_
    rintro e w14 ⟨v157, rfl, ho158, h14⟩
    obtain ⟨a159, c160, rfl⟩ := ho158.form
    have f161 : OwnInts w13.heap.size w14.heap.size w14 (.slice a159 (frV (x0) (n1)).length c160) (frV (x0) (n1)) := ho158
    clear ho158
    have sz14 : w13.heap.size ≤ w14.heap.size := h14.size
    have bw14 : Below w.heap.size w w14 := bw13.trans (h14.mono bw13.size)
    have f163 := f146.mono h14
    have f164 := f147.mono h14
    have f165 := f148.mono h14
    have f166 := f149.mono h14
    have f167 := f150.mono h14
    have f168 := f144.mono h14
    have x169 : w14.cell? ⟨w.heap.size, 0, none⟩ = some (.string (x0).name) := cellB h14 x151
    have x170 : w14.cell? ⟨w.heap.size, 1, none⟩ = some (l0) := cellB h14 x152
    have l171 : w.heap.size < w14.heap.size := by omega
    have x172 : w14.cell? ⟨w4.heap.size, 0, none⟩ = some (.string (x0).name) := cellB h14 x154
    have x173 : w14.cell? ⟨w4.heap.size, 1, none⟩ = some (.slice a26 (x0).tones.length c27) := cellB h14 x155
    have l174 : w4.heap.size < w14.heap.size := by omega
    clear f146 f147 f148 f149 f150 f144 x151 x152 l153 x154 x155 l156
    go_wp2_with fail
    refine (eqIntsK _ _ (frV (x0) (n1)) _ (OwnInts.rd f161) (OwnInts.rd f164)).mono ?_
    rintro e w15 ⟨rfl, h15⟩
    have sz15 : w14.heap.size ≤ w15.heap.size := h15.size
    have bw15 : Below w.heap.size w w15 := bw14.trans (h15.mono bw14.size)
    have f176 := f163.mono h15
    have f177 := f164.mono h15
    have f178 := f165.mono h15
    have f179 := f166.mono h15
    have f180 := f167.mono h15
    have f181 := f168.mono h15
    have f182 := f161.mono h15
    have x183 : w15.cell? ⟨w.heap.size, 0, none⟩ = some (.string (x0).name) := cellB h15 x169
    have x184 : w15.cell? ⟨w.heap.size, 1, none⟩ = some (l0) := cellB h15 x170
    have l185 : w.heap.size < w15.heap.size := by omega
    have x186 : w15.cell? ⟨w4.heap.size, 0, none⟩ = some (.string (x0).name) := cellB h15 x172
    have x187 : w15.cell? ⟨w4.heap.size, 1, none⟩ = some (.slice a26 (x0).tones.length c27) := cellB h15 x173
    have l188 : w4.heap.size < w15.heap.size := by omega
    clear f163 f164 f165 f166 f167 f168 f161 x169 x170 l171 x172 x173 l174
    go_wp2_with fail
    refine (heldIntsK _ _ _ (frV (x0) (n1)) (1) _ f179 (by omega) (by have := hbd; omega)).mono ?_
    rintro e w16 ⟨rfl, h16⟩
    have sz16 : w15.heap.size ≤ w16.heap.size := h16.size
    have bw16 : Below w.heap.size w w16 := bw15.trans (h16.mono bw15.size)
    have f190 := f176.mono h16
    have f191 := f177.mono h16
    have f192 := f178.mono h16
    have f193 := f179.mono h16
    have f194 := f180.mono h16
    have f195 := f181.mono h16
    have f196 := f182.mono h16
    have x197 : w16.cell? ⟨w.heap.size, 0, none⟩ = some (.string (x0).name) := cellB h16 x183
    have x198 : w16.cell? ⟨w.heap.size, 1, none⟩ = some (l0) := cellB h16 x184
    have l199 : w.heap.size < w16.heap.size := by omega
    have x200 : w16.cell? ⟨w4.heap.size, 0, none⟩ = some (.string (x0).name) := cellB h16 x186
    have x201 : w16.cell? ⟨w4.heap.size, 1, none⟩ = some (.slice a26 (x0).tones.length c27) := cellB h16 x187
    have l202 : w4.heap.size < w16.heap.size := by omega
    clear f176 f177 f178 f179 f180 f181 f182 x183 x184 l185 x186 x187 l188
    go_wp2
    go_ret
    exact ⟨rfl, bw16⟩
  · skip
    go_enter Try.func10, Try.ntmps10
    go_wp2_with fail
    refine (szTunN _ (x0) (1048576) _ (r0.mono (by (repeat (first | with_reducible exact Below.refl _ _ | with_reducible exact hbw | (with_reducible refine Below.setCell ?_ ?_ _; rotate_left; · first | exact Nat.le_refl _ | omega | (simp; done) | (simp; omega)) | (with_reducible refine Below.alloc ?_ ?_ _; rotate_left; · first | exact Nat.le_refl _ | omega | (simp; done) | (simp; omega)) | with_reducible refine below_drewN ?_ _ | with_reducible refine Below.drew ?_)))) o0 (by omega) (by omega) (by omega)).mono ?_
    rintro e w1 ⟨rfl, h1⟩
    have bw1 : Below w.heap.size w w1 := Below.trans (by (repeat (first | with_reducible exact Below.refl _ _ | with_reducible exact hbw | (with_reducible refine Below.setCell ?_ ?_ _; rotate_left; · first | exact Nat.le_refl _ | omega | (simp; done) | (simp; omega)) | (with_reducible refine Below.alloc ?_ ?_ _; rotate_left; · first | exact Nat.le_refl _ | omega | (simp; done) | (simp; omega)) | with_reducible refine below_drewN ?_ _ | with_reducible refine Below.drew ?_))) (h1.mono (by simp <;> omega))
    go_wp2
    go_ret
    exact ⟨rfl, bw1⟩

end Go.Proofs.Ytgelilelmmocgaa
