/- The law FnExactThinTune returns true and leaves memory as it was. -/
import Derived.Test.YtgelilelmmocgaaThinS
import Derived.Test.YtgelilelmmocgaaKTun
set_option linter.unusedSimpArgs false
set_option linter.unnecessarySimpa false
set_option linter.unusedVariables false
set_option maxRecDepth 100000
namespace Go.Proofs.Ytgelilelmmocgaa
open Go.RowKit

set_option maxHeartbeats 4000000 in
theorem lawThinTune (w : World) (v0 : Value) (y0 : Value × TunD) (h0 : Tun w v0 y0.1 y0.2) (o0 : y0.2.ok) (n1 : Int) (o1 : I64 n1) :
    Calls Try.prog 11 #[v0, .int .i64 n1] w fun e w' => e = .returned (.bool true) ∧ Below w.heap.size w w' := by
  obtain ⟨l0, x0⟩ := y0
  obtain ⟨rfl, hl0⟩ := h0
  simp only at hl0 o0 ⊢
  have r0 : RdTun w (.agg #[.string (x0).name, l0]) x0 := ⟨l0, rfl, hl0⟩
  by_cases g0 : szTun x0 ≤ 1048576
  · skip
    have q0 : (x0).tones.length ≤ 1048576 := by have := g0; unfold szTun at this; omega
    have hbd := thinV_len x0 n1
    go_enter Try.func11, Try.ntmps11
    go_wp2_with fail
    refine (szTunY _ (x0) (1048576) _ (r0.mono (by (repeat (first | with_reducible exact Below.refl _ _ | with_reducible exact hbw | (with_reducible refine Below.setCell ?_ ?_ _; rotate_left; · first | exact Nat.le_refl _ | omega | (simp; done) | (simp; omega)) | (with_reducible refine Below.alloc ?_ ?_ _; rotate_left; · first | exact Nat.le_refl _ | omega | (simp; done) | (simp; omega)) | with_reducible refine below_drewN ?_ _ | with_reducible refine Below.drew ?_)))) o0 (by omega) (by omega) (by omega)).mono ?_
    rintro e w1 ⟨rfl, h1⟩
    have st1 : Below w.heap.size w w1 := Below.trans (by (repeat (first | with_reducible exact Below.refl _ _ | with_reducible exact hbw | (with_reducible refine Below.setCell ?_ ?_ _; rotate_left; · first | exact Nat.le_refl _ | omega | (simp; done) | (simp; omega)) | (with_reducible refine Below.alloc ?_ ?_ _; rotate_left; · first | exact Nat.le_refl _ | omega | (simp; done) | (simp; omega)) | with_reducible refine below_drewN ?_ _ | with_reducible refine Below.drew ?_))) (h1.mono (by first | exact Nat.le_refl _ | omega | (simp; done) | (simp; omega)))
    have sz1 : w.heap.size + 1 ≤ w1.heap.size := by have := h1.size; simp at this ⊢; omega
    have bw1 : Below w.heap.size w w1 := st1
    have x2 : w1.cell? ⟨w.heap.size, 0, none⟩ = some (.string (x0).name) := cellB h1 (by simp [go_sem])
    have x3 : w1.cell? ⟨w.heap.size, 1, none⟩ = some (l0) := cellB h1 (by simp [go_sem])
    have l4 : w.heap.size < w1.heap.size := by omega
    clear h1
    go_wp2_with fail
    refine (toTunK _ (x0) _ (r0.mono (by have hbw := bw1; (repeat (first | with_reducible exact Below.refl _ _ | with_reducible exact hbw | (with_reducible refine Below.setCell ?_ ?_ _; rotate_left; · first | exact Nat.le_refl _ | omega | (simp; done) | (simp; omega)) | (with_reducible refine Below.alloc ?_ ?_ _; rotate_left; · first | exact Nat.le_refl _ | omega | (simp; done) | (simp; omega)) | with_reducible refine below_drewN ?_ _ | with_reducible refine Below.drew ?_)))) q0).mono ?_
    rintro e w2 ⟨v5, rfl, ho6, h2⟩
    obtain ⟨a7, c8, rfl⟩ := ho6.form
    have f9 : OwnTun w1.heap.size w2.heap.size w2 (.agg #[.string (x0).name, .slice a7 (x0).tones.length c8]) (x0) := ho6
    clear ho6
    have sz2 : w1.heap.size ≤ w2.heap.size := h2.size
    have bw2 : Below w.heap.size w w2 := bw1.trans (h2.mono bw1.size)
    have x11 : w2.cell? ⟨w.heap.size, 0, none⟩ = some (.string (x0).name) := cellB h2 x2
    have x12 : w2.cell? ⟨w.heap.size, 1, none⟩ = some (l0) := cellB h2 x3
    have l13 : w.heap.size < w2.heap.size := by omega
    clear x2 x3 l4
    go_wp2_with fail
    refine (specThinTune_any _ (x0) (n1) _ (OwnTun.rd f9) o0 q0 o1).mono ?_
    rintro e w3 ⟨v14, rfl, ho15, h3⟩
    obtain ⟨a16, c17, rfl⟩ := ho15.form
    have f18 : OwnTun w2.heap.size w3.heap.size w3 (.agg #[.string (thinV (x0) (n1)).name, .slice a16 (thinV (x0) (n1)).tones.length c17]) (thinV (x0) (n1)) := ho15
    clear ho15
    have sz3 : w2.heap.size ≤ w3.heap.size := h3.size
    have bw3 : Below w.heap.size w w3 := bw2.trans (h3.mono bw2.size)
    have f20 := f9.mono h3
    have x21 : w3.cell? ⟨w.heap.size, 0, none⟩ = some (.string (x0).name) := cellB h3 x11
    have x22 : w3.cell? ⟨w.heap.size, 1, none⟩ = some (l0) := cellB h3 x12
    have l23 : w.heap.size < w3.heap.size := by omega
    clear f9 x11 x12 l13
    go_wp2_with fail
    refine (toTunK _ (x0) _ (r0.mono (by have hbw := bw3; (repeat (first | with_reducible exact Below.refl _ _ | with_reducible exact hbw | (with_reducible refine Below.setCell ?_ ?_ _; rotate_left; · first | exact Nat.le_refl _ | omega | (simp; done) | (simp; omega)) | (with_reducible refine Below.alloc ?_ ?_ _; rotate_left; · first | exact Nat.le_refl _ | omega | (simp; done) | (simp; omega)) | with_reducible refine below_drewN ?_ _ | with_reducible refine Below.drew ?_)))) q0).mono ?_
    rintro e w4 ⟨v24, rfl, ho25, h4⟩
    obtain ⟨a26, c27, rfl⟩ := ho25.form
    have f28 : OwnTun (w3.heap.size + 1) w4.heap.size w4 (.agg #[.string (x0).name, .slice a26 (x0).tones.length c27]) (x0) := ho25.wide (by simp) (Nat.le_refl _)
    clear ho25
    have st29 : Below w3.heap.size w3 w4 := Below.trans (by (repeat (first | with_reducible exact Below.refl _ _ | with_reducible exact hbw | (with_reducible refine Below.setCell ?_ ?_ _; rotate_left; · first | exact Nat.le_refl _ | omega | (simp; done) | (simp; omega)) | (with_reducible refine Below.alloc ?_ ?_ _; rotate_left; · first | exact Nat.le_refl _ | omega | (simp; done) | (simp; omega)) | with_reducible refine below_drewN ?_ _ | with_reducible refine Below.drew ?_))) (h4.mono (by first | exact Nat.le_refl _ | omega | (simp; done) | (simp; omega)))
    have sz4 : w3.heap.size + 1 ≤ w4.heap.size := by have := h4.size; simp at this ⊢; omega
    have bw4 : Below w.heap.size w w4 := bw3.trans (st29.mono bw3.size)
    have f30 := f20.mono st29
    have f31 := f18.mono st29
    have x32 : w4.cell? ⟨w.heap.size, 0, none⟩ = some (.string (x0).name) := cellB st29 x21
    have x33 : w4.cell? ⟨w.heap.size, 1, none⟩ = some (l0) := cellB st29 x22
    have l34 : w.heap.size < w4.heap.size := by omega
    have x35 : w4.cell? ⟨w3.heap.size, 0, none⟩ = some (.string (thinV (x0) (n1)).name) := cellB h4 (by simp [go_sem])
    have x36 : w4.cell? ⟨w3.heap.size, 1, none⟩ = some (.slice a16 (thinV (x0) (n1)).tones.length c17) := cellB h4 (by simp [go_sem])
    have l37 : w3.heap.size < w4.heap.size := by omega
    clear f20 f18 x21 x22 l23 h4
    go_wp2_with fail
    refine (implThinTune_any _ (x0) (n1) _ ((OwnTun.rd f28).mono (by (repeat (first | with_reducible exact Below.refl _ _ | with_reducible exact hbw | (with_reducible refine Below.setCell ?_ ?_ _; rotate_left; · first | exact Nat.le_refl _ | omega | (simp; done) | (simp; omega)) | (with_reducible refine Below.alloc ?_ ?_ _; rotate_left; · first | exact Nat.le_refl _ | omega | (simp; done) | (simp; omega)) | with_reducible refine below_drewN ?_ _ | with_reducible refine Below.drew ?_)))) o0 q0 o1).mono ?_
    rintro e w5 ⟨v38, rfl, ho39, h5⟩
    obtain ⟨a40, c41, rfl⟩ := ho39.form
    have f42 : OwnTun (w4.heap.size + 1) w5.heap.size w5 (.agg #[.string (thinV (x0) (n1)).name, .slice a40 (thinV (x0) (n1)).tones.length c41]) (thinV (x0) (n1)) := ho39.wide (by simp) (Nat.le_refl _)
    clear ho39
    have st43 : Below w4.heap.size w4 w5 := Below.trans (by (repeat (first | with_reducible exact Below.refl _ _ | with_reducible exact hbw | (with_reducible refine Below.setCell ?_ ?_ _; rotate_left; · first | exact Nat.le_refl _ | omega | (simp; done) | (simp; omega)) | (with_reducible refine Below.alloc ?_ ?_ _; rotate_left; · first | exact Nat.le_refl _ | omega | (simp; done) | (simp; omega)) | with_reducible refine below_drewN ?_ _ | with_reducible refine Below.drew ?_))) (h5.mono (by first | exact Nat.le_refl _ | omega | (simp; done) | (simp; omega)))
    have sz5 : w4.heap.size + 1 ≤ w5.heap.size := by have := h5.size; simp at this ⊢; omega
    have bw5 : Below w.heap.size w w5 := bw4.trans (st43.mono bw4.size)
    have f44 := f30.mono st43
    have f45 := f31.mono st43
    have f46 := f28.mono st43
    have x47 : w5.cell? ⟨w.heap.size, 0, none⟩ = some (.string (x0).name) := cellB st43 x32
    have x48 : w5.cell? ⟨w.heap.size, 1, none⟩ = some (l0) := cellB st43 x33
    have l49 : w.heap.size < w5.heap.size := by omega
    have x50 : w5.cell? ⟨w3.heap.size, 0, none⟩ = some (.string (thinV (x0) (n1)).name) := cellB st43 x35
    have x51 : w5.cell? ⟨w3.heap.size, 1, none⟩ = some (.slice a16 (thinV (x0) (n1)).tones.length c17) := cellB st43 x36
    have l52 : w3.heap.size < w5.heap.size := by omega
    have x53 : w5.cell? ⟨w4.heap.size, 0, none⟩ = some (.string (x0).name) := cellB h5 (by simp [go_sem])
    have x54 : w5.cell? ⟨w4.heap.size, 1, none⟩ = some (.slice a26 (x0).tones.length c27) := cellB h5 (by simp [go_sem])
    have l55 : w4.heap.size < w5.heap.size := by omega
    clear f30 f31 f28 x32 x33 l34 x35 x36 l37 h5
    go_wp2_with fail
    refine (eqTunK _ _ (thinV (x0) (n1)) _ ((OwnTun.rd f42).mono (by (repeat (first | with_reducible exact Below.refl _ _ | with_reducible exact hbw | (with_reducible refine Below.setCell ?_ ?_ _; rotate_left; · first | exact Nat.le_refl _ | omega | (simp; done) | (simp; omega)) | (with_reducible refine Below.alloc ?_ ?_ _; rotate_left; · first | exact Nat.le_refl _ | omega | (simp; done) | (simp; omega)) | with_reducible refine below_drewN ?_ _ | with_reducible refine Below.drew ?_)))) ((OwnTun.rd f45).mono (by (repeat (first | with_reducible exact Below.refl _ _ | with_reducible exact hbw | (with_reducible refine Below.setCell ?_ ?_ _; rotate_left; · first | exact Nat.le_refl _ | omega | (simp; done) | (simp; omega)) | (with_reducible refine Below.alloc ?_ ?_ _; rotate_left; · first | exact Nat.le_refl _ | omega | (simp; done) | (simp; omega)) | with_reducible refine below_drewN ?_ _ | with_reducible refine Below.drew ?_))))).mono ?_
    rintro e w6 ⟨rfl, h6⟩
    have st56 : Below w5.heap.size w5 w6 := Below.trans (by (repeat (first | with_reducible exact Below.refl _ _ | with_reducible exact hbw | (with_reducible refine Below.setCell ?_ ?_ _; rotate_left; · first | exact Nat.le_refl _ | omega | (simp; done) | (simp; omega)) | (with_reducible refine Below.alloc ?_ ?_ _; rotate_left; · first | exact Nat.le_refl _ | omega | (simp; done) | (simp; omega)) | with_reducible refine below_drewN ?_ _ | with_reducible refine Below.drew ?_))) (h6.mono (by first | exact Nat.le_refl _ | omega | (simp; done) | (simp; omega)))
    have sz6 : w5.heap.size + 1 ≤ w6.heap.size := by have := h6.size; simp at this ⊢; omega
    have bw6 : Below w.heap.size w w6 := bw5.trans (st56.mono bw5.size)
    have f57 := f44.mono st56
    have f58 := f45.mono st56
    have f59 := f46.mono st56
    have f60 := f42.mono st56
    have x61 : w6.cell? ⟨w.heap.size, 0, none⟩ = some (.string (x0).name) := cellB st56 x47
    have x62 : w6.cell? ⟨w.heap.size, 1, none⟩ = some (l0) := cellB st56 x48
    have l63 : w.heap.size < w6.heap.size := by omega
    have x64 : w6.cell? ⟨w3.heap.size, 0, none⟩ = some (.string (thinV (x0) (n1)).name) := cellB st56 x50
    have x65 : w6.cell? ⟨w3.heap.size, 1, none⟩ = some (.slice a16 (thinV (x0) (n1)).tones.length c17) := cellB st56 x51
    have l66 : w3.heap.size < w6.heap.size := by omega
    have x67 : w6.cell? ⟨w4.heap.size, 0, none⟩ = some (.string (x0).name) := cellB st56 x53
    have x68 : w6.cell? ⟨w4.heap.size, 1, none⟩ = some (.slice a26 (x0).tones.length c27) := cellB st56 x54
    have l69 : w4.heap.size < w6.heap.size := by omega
    have x70 : w6.cell? ⟨w5.heap.size, 0, none⟩ = some (.string (thinV (x0) (n1)).name) := cellB h6 (by simp [go_sem])
    have x71 : w6.cell? ⟨w5.heap.size, 1, none⟩ = some (.slice a40 (thinV (x0) (n1)).tones.length c41) := cellB h6 (by simp [go_sem])
    have l72 : w5.heap.size < w6.heap.size := by omega
    clear f44 f45 f46 f42 x47 x48 l49 x50 x51 l52 x53 x54 l55 h6
    go_wp2_with fail
    refine wp_region_ord [(0, true), (1, true), (2, false), (3, false), (4, true)] (none) (by kernel_rfl) (by kernel_rfl) ?_
    (repeat (with_reducible refine wpOrd_soft (fun K hK => ?_); simp only [List.getElem?_toArray, List.getElem?_cons_zero, List.getElem?_cons_succ]; first | (go_simp; refine hK _ ?_) | (simp only [undef]; go_simp; refine hK _ ?_); clear hK K))
    (with_reducible refine wpOrd_hard ?_; simp only [List.getElem?_toArray, List.getElem?_cons_zero, List.getElem?_cons_succ])
    go_wp2_with fail
    refine (toTunK _ (x0) _ (r0.mono (by have hbw := bw6; (repeat (first | with_reducible exact Below.refl _ _ | with_reducible exact hbw | (with_reducible refine Below.setCell ?_ ?_ _; rotate_left; · first | exact Nat.le_refl _ | omega | (simp; done) | (simp; omega)) | (with_reducible refine Below.alloc ?_ ?_ _; rotate_left; · first | exact Nat.le_refl _ | omega | (simp; done) | (simp; omega)) | with_reducible refine below_drewN ?_ _ | with_reducible refine Below.drew ?_)))) q0).mono ?_
    rintro e w7 ⟨v73, rfl, ho74, h7⟩
    obtain ⟨a75, c76, rfl⟩ := ho74.form
    have f77 : OwnTun w6.heap.size w7.heap.size w7 (.agg #[.string (x0).name, .slice a75 (x0).tones.length c76]) (x0) := ho74
    clear ho74
    have st78 : Below w6.heap.size w6 w7 := undrew h7
    have sz7 : w6.heap.size ≤ w7.heap.size := st78.size
    have bw7 : Below w.heap.size w w7 := bw6.trans (st78.mono bw6.size)
    have f79 := f57.mono st78
    have f80 := f58.mono st78
    have f81 := f59.mono st78
    have f82 := f60.mono st78
    have x83 : w7.cell? ⟨w.heap.size, 0, none⟩ = some (.string (x0).name) := cellB st78 x61
    have x84 : w7.cell? ⟨w.heap.size, 1, none⟩ = some (l0) := cellB st78 x62
    have l85 : w.heap.size < w7.heap.size := by omega
    have x86 : w7.cell? ⟨w3.heap.size, 0, none⟩ = some (.string (thinV (x0) (n1)).name) := cellB st78 x64
    have x87 : w7.cell? ⟨w3.heap.size, 1, none⟩ = some (.slice a16 (thinV (x0) (n1)).tones.length c17) := cellB st78 x65
    have l88 : w3.heap.size < w7.heap.size := by omega
    have x89 : w7.cell? ⟨w4.heap.size, 0, none⟩ = some (.string (x0).name) := cellB st78 x67
    have x90 : w7.cell? ⟨w4.heap.size, 1, none⟩ = some (.slice a26 (x0).tones.length c27) := cellB st78 x68
    have l91 : w4.heap.size < w7.heap.size := by omega
    have x92 : w7.cell? ⟨w5.heap.size, 0, none⟩ = some (.string (thinV (x0) (n1)).name) := cellB st78 x70
    have x93 : w7.cell? ⟨w5.heap.size, 1, none⟩ = some (.slice a40 (thinV (x0) (n1)).tones.length c41) := cellB st78 x71
    have l94 : w5.heap.size < w7.heap.size := by omega
    clear f57 f58 f59 f60 x61 x62 l63 x64 x65 l66 x67 x68 l69 x70 x71 l72 h7
    go_wp2_with fail
    refine ⟨grown_of_below st78, ?_⟩
    (repeat (with_reducible refine wpOrd_soft (fun K hK => ?_); simp only [List.getElem?_toArray, List.getElem?_cons_zero, List.getElem?_cons_succ]; first | (go_simp; refine hK _ ?_) | (simp only [undef]; go_simp; refine hK _ ?_); clear hK K))
    (with_reducible refine wpOrd_hard ?_; simp only [List.getElem?_toArray, List.getElem?_cons_zero, List.getElem?_cons_succ])
    go_wp2_with fail
    refine (eqTunK _ _ (x0) _ (OwnTun.rd f81) (OwnTun.rd f77)).mono ?_
    rintro e w8 ⟨rfl, h8⟩
    have sz8 : w7.heap.size ≤ w8.heap.size := h8.size
    have bw8 : Below w.heap.size w w8 := bw7.trans (h8.mono bw7.size)
    have f96 := f79.mono h8
    have f97 := f80.mono h8
    have f98 := f81.mono h8
    have f99 := f82.mono h8
    have f100 := f77.mono h8
    have x101 : w8.cell? ⟨w.heap.size, 0, none⟩ = some (.string (x0).name) := cellB h8 x83
    have x102 : w8.cell? ⟨w.heap.size, 1, none⟩ = some (l0) := cellB h8 x84
    have l103 : w.heap.size < w8.heap.size := by omega
    have x104 : w8.cell? ⟨w3.heap.size, 0, none⟩ = some (.string (thinV (x0) (n1)).name) := cellB h8 x86
    have x105 : w8.cell? ⟨w3.heap.size, 1, none⟩ = some (.slice a16 (thinV (x0) (n1)).tones.length c17) := cellB h8 x87
    have l106 : w3.heap.size < w8.heap.size := by omega
    have x107 : w8.cell? ⟨w4.heap.size, 0, none⟩ = some (.string (x0).name) := cellB h8 x89
    have x108 : w8.cell? ⟨w4.heap.size, 1, none⟩ = some (.slice a26 (x0).tones.length c27) := cellB h8 x90
    have l109 : w4.heap.size < w8.heap.size := by omega
    have x110 : w8.cell? ⟨w5.heap.size, 0, none⟩ = some (.string (thinV (x0) (n1)).name) := cellB h8 x92
    have x111 : w8.cell? ⟨w5.heap.size, 1, none⟩ = some (.slice a40 (thinV (x0) (n1)).tones.length c41) := cellB h8 x93
    have l112 : w5.heap.size < w8.heap.size := by omega
    clear f79 f80 f81 f82 f77 x83 x84 l85 x86 x87 l88 x89 x90 l91 x92 x93 l94
    have rg113 : Below w6.heap.size w6 w8 := st78.trans (h8.mono st78.size)
    go_wp2_with fail
    refine ⟨grown_of_below rg113, ?_⟩
    (repeat (with_reducible refine wpOrd_soft (fun K hK => ?_); simp only [List.getElem?_toArray, List.getElem?_cons_zero, List.getElem?_cons_succ]; first | (go_simp; refine hK _ ?_) | (simp only [undef]; go_simp; refine hK _ ?_); clear hK K))
    (with_reducible refine wpOrd_nil ?_); refine NoPanic.normal ?_
    go_wp2_with fail
    refine (markTunK _ _ _ (x0) (1) _ f98 (by omega) (by have := q0; omega)).mono ?_
    rintro e w9 ⟨rfl, f114, t9⟩
    have sz9 : w8.heap.size ≤ w9.heap.size := t9.size
    have bw9 : Below w.heap.size w w9 := t9.below bw8 (by omega) (by omega)
    have f116 := f96.touch t9 (by omega)
    have f117 := f97.touch t9 (by omega)
    have f119 := f99.touch t9 (by omega)
    have f120 := f100.touch t9 (by omega)
    have x121 : w9.cell? ⟨w.heap.size, 0, none⟩ = some (.string (x0).name) := cellT t9 x101 (by simp only; omega)
    have x122 : w9.cell? ⟨w.heap.size, 1, none⟩ = some (l0) := cellT t9 x102 (by simp only; omega)
    have l123 : w.heap.size < w9.heap.size := by omega
    have x124 : w9.cell? ⟨w3.heap.size, 0, none⟩ = some (.string (thinV (x0) (n1)).name) := cellT t9 x104 (by simp only; omega)
    have x125 : w9.cell? ⟨w3.heap.size, 1, none⟩ = some (.slice a16 (thinV (x0) (n1)).tones.length c17) := cellT t9 x105 (by simp only; omega)
    have l126 : w3.heap.size < w9.heap.size := by omega
    have x127 : w9.cell? ⟨w4.heap.size, 0, none⟩ = some (.string (x0).name) := cellT t9 x107 (by simp only; omega)
    have x128 : w9.cell? ⟨w4.heap.size, 1, none⟩ = some (.slice a26 (x0).tones.length c27) := cellT t9 x108 (by simp only; omega)
    have l129 : w4.heap.size < w9.heap.size := by omega
    have x130 : w9.cell? ⟨w5.heap.size, 0, none⟩ = some (.string (thinV (x0) (n1)).name) := cellT t9 x110 (by simp only; omega)
    have x131 : w9.cell? ⟨w5.heap.size, 1, none⟩ = some (.slice a40 (thinV (x0) (n1)).tones.length c41) := cellT t9 x111 (by simp only; omega)
    have l132 : w5.heap.size < w9.heap.size := by omega
    clear f96 f97 f99 f100 x101 x102 l103 x104 x105 l106 x107 x108 l109 x110 x111 l112
    clear f98
    go_wp2_with fail
    refine (eqTunK _ _ (thinV (x0) (n1)) _ (OwnTun.rd f119) (OwnTun.rd f117)).mono ?_
    rintro e w10 ⟨rfl, h10⟩
    have sz10 : w9.heap.size ≤ w10.heap.size := h10.size
    have bw10 : Below w.heap.size w w10 := bw9.trans (h10.mono bw9.size)
    have f134 := f116.mono h10
    have f135 := f117.mono h10
    have f136 := f114.mono h10
    have f137 := f119.mono h10
    have f138 := f120.mono h10
    have x139 : w10.cell? ⟨w.heap.size, 0, none⟩ = some (.string (x0).name) := cellB h10 x121
    have x140 : w10.cell? ⟨w.heap.size, 1, none⟩ = some (l0) := cellB h10 x122
    have l141 : w.heap.size < w10.heap.size := by omega
    have x142 : w10.cell? ⟨w3.heap.size, 0, none⟩ = some (.string (thinV (x0) (n1)).name) := cellB h10 x124
    have x143 : w10.cell? ⟨w3.heap.size, 1, none⟩ = some (.slice a16 (thinV (x0) (n1)).tones.length c17) := cellB h10 x125
    have l144 : w3.heap.size < w10.heap.size := by omega
    have x145 : w10.cell? ⟨w4.heap.size, 0, none⟩ = some (.string (x0).name) := cellB h10 x127
    have x146 : w10.cell? ⟨w4.heap.size, 1, none⟩ = some (.slice a26 (x0).tones.length c27) := cellB h10 x128
    have l147 : w4.heap.size < w10.heap.size := by omega
    have x148 : w10.cell? ⟨w5.heap.size, 0, none⟩ = some (.string (thinV (x0) (n1)).name) := cellB h10 x130
    have x149 : w10.cell? ⟨w5.heap.size, 1, none⟩ = some (.slice a40 (thinV (x0) (n1)).tones.length c41) := cellB h10 x131
    have l150 : w5.heap.size < w10.heap.size := by omega
    clear f116 f117 f114 f119 f120 x121 x122 l123 x124 x125 l126 x127 x128 l129 x130 x131 l132
    go_wp2_with fail
    refine (markTunK _ _ _ (thinV (x0) (n1)) (1) _ f137 (by omega) (by have := hbd; omega)).mono ?_
    rintro e w11 ⟨rfl, f151, t11⟩
    have sz11 : w10.heap.size ≤ w11.heap.size := t11.size
    have bw11 : Below w.heap.size w w11 := t11.below bw10 (by omega) (by omega)
    have f153 := f134.touch t11 (by omega)
    have f154 := f135.touch t11 (by omega)
    have f155 := f136.touch t11 (by omega)
    have f157 := f138.touch t11 (by omega)
    have x158 : w11.cell? ⟨w.heap.size, 0, none⟩ = some (.string (x0).name) := cellT t11 x139 (by simp only; omega)
    have x159 : w11.cell? ⟨w.heap.size, 1, none⟩ = some (l0) := cellT t11 x140 (by simp only; omega)
    have l160 : w.heap.size < w11.heap.size := by omega
    have x161 : w11.cell? ⟨w3.heap.size, 0, none⟩ = some (.string (thinV (x0) (n1)).name) := cellT t11 x142 (by simp only; omega)
    have x162 : w11.cell? ⟨w3.heap.size, 1, none⟩ = some (.slice a16 (thinV (x0) (n1)).tones.length c17) := cellT t11 x143 (by simp only; omega)
    have l163 : w3.heap.size < w11.heap.size := by omega
    have x164 : w11.cell? ⟨w4.heap.size, 0, none⟩ = some (.string (x0).name) := cellT t11 x145 (by simp only; omega)
    have x165 : w11.cell? ⟨w4.heap.size, 1, none⟩ = some (.slice a26 (x0).tones.length c27) := cellT t11 x146 (by simp only; omega)
    have l166 : w4.heap.size < w11.heap.size := by omega
    have x167 : w11.cell? ⟨w5.heap.size, 0, none⟩ = some (.string (thinV (x0) (n1)).name) := cellT t11 x148 (by simp only; omega)
    have x168 : w11.cell? ⟨w5.heap.size, 1, none⟩ = some (.slice a40 (thinV (x0) (n1)).tones.length c41) := cellT t11 x149 (by simp only; omega)
    have l169 : w5.heap.size < w11.heap.size := by omega
    clear f134 f135 f136 f138 x139 x140 l141 x142 x143 l144 x145 x146 l147 x148 x149 l150
    clear f137
    go_wp2_with fail
    refine (heldTunK _ _ _ (thinV (x0) (n1)) (1) _ f151 (by omega) (by have := hbd; omega)).mono ?_
    rintro e w12 ⟨rfl, h12⟩
    have sz12 : w11.heap.size ≤ w12.heap.size := h12.size
    have bw12 : Below w.heap.size w w12 := bw11.trans (h12.mono bw11.size)
    have f171 := f153.mono h12
    have f172 := f154.mono h12
    have f173 := f155.mono h12
    have f174 := f151.mono h12
    have f175 := f157.mono h12
    have x176 : w12.cell? ⟨w.heap.size, 0, none⟩ = some (.string (x0).name) := cellB h12 x158
    have x177 : w12.cell? ⟨w.heap.size, 1, none⟩ = some (l0) := cellB h12 x159
    have l178 : w.heap.size < w12.heap.size := by omega
    have x179 : w12.cell? ⟨w3.heap.size, 0, none⟩ = some (.string (thinV (x0) (n1)).name) := cellB h12 x161
    have x180 : w12.cell? ⟨w3.heap.size, 1, none⟩ = some (.slice a16 (thinV (x0) (n1)).tones.length c17) := cellB h12 x162
    have l181 : w3.heap.size < w12.heap.size := by omega
    have x182 : w12.cell? ⟨w4.heap.size, 0, none⟩ = some (.string (x0).name) := cellB h12 x164
    have x183 : w12.cell? ⟨w4.heap.size, 1, none⟩ = some (.slice a26 (x0).tones.length c27) := cellB h12 x165
    have l184 : w4.heap.size < w12.heap.size := by omega
    have x185 : w12.cell? ⟨w5.heap.size, 0, none⟩ = some (.string (thinV (x0) (n1)).name) := cellB h12 x167
    have x186 : w12.cell? ⟨w5.heap.size, 1, none⟩ = some (.slice a40 (thinV (x0) (n1)).tones.length c41) := cellB h12 x168
    have l187 : w5.heap.size < w12.heap.size := by omega
    clear f153 f154 f155 f151 f157 x158 x159 l160 x161 x162 l163 x164 x165 l166 x167 x168 l169
    go_wp2_with fail
    refine (toTunK _ (x0) _ (r0.mono (by have hbw := bw12; (repeat (first | with_reducible exact Below.refl _ _ | with_reducible exact hbw | (with_reducible refine Below.setCell ?_ ?_ _; rotate_left; · first | exact Nat.le_refl _ | omega | (simp; done) | (simp; omega)) | (with_reducible refine Below.alloc ?_ ?_ _; rotate_left; · first | exact Nat.le_refl _ | omega | (simp; done) | (simp; omega)) | with_reducible refine below_drewN ?_ _ | with_reducible refine Below.drew ?_)))) q0).mono ?_
    rintro e w13 ⟨v188, rfl, ho189, h13⟩
    obtain ⟨a190, c191, rfl⟩ := ho189.form
    have f192 : OwnTun w12.heap.size w13.heap.size w13 (.agg #[.string (x0).name, .slice a190 (x0).tones.length c191]) (x0) := ho189
    clear ho189
    have sz13 : w12.heap.size ≤ w13.heap.size := h13.size
    have bw13 : Below w.heap.size w w13 := bw12.trans (h13.mono bw12.size)
    have f194 := f171.mono h13
    have f195 := f172.mono h13
    have f196 := f173.mono h13
    have f197 := f174.mono h13
    have f198 := f175.mono h13
    have x199 : w13.cell? ⟨w.heap.size, 0, none⟩ = some (.string (x0).name) := cellB h13 x176
    have x200 : w13.cell? ⟨w.heap.size, 1, none⟩ = some (l0) := cellB h13 x177
    have l201 : w.heap.size < w13.heap.size := by omega
    have x202 : w13.cell? ⟨w3.heap.size, 0, none⟩ = some (.string (thinV (x0) (n1)).name) := cellB h13 x179
    have x203 : w13.cell? ⟨w3.heap.size, 1, none⟩ = some (.slice a16 (thinV (x0) (n1)).tones.length c17) := cellB h13 x180
    have l204 : w3.heap.size < w13.heap.size := by omega
    have x205 : w13.cell? ⟨w4.heap.size, 0, none⟩ = some (.string (x0).name) := cellB h13 x182
    have x206 : w13.cell? ⟨w4.heap.size, 1, none⟩ = some (.slice a26 (x0).tones.length c27) := cellB h13 x183
    have l207 : w4.heap.size < w13.heap.size := by omega
    have x208 : w13.cell? ⟨w5.heap.size, 0, none⟩ = some (.string (thinV (x0) (n1)).name) := cellB h13 x185
    have x209 : w13.cell? ⟨w5.heap.size, 1, none⟩ = some (.slice a40 (thinV (x0) (n1)).tones.length c41) := cellB h13 x186
    have l210 : w5.heap.size < w13.heap.size := by omega
    clear f171 f172 f173 f174 f175 x176 x177 l178 x179 x180 l181 x182 x183 l184 x185 x186 l187
    go_wp2_with fail
    refine (implThinTune_any _ (x0) (n1) _ (OwnTun.rd f192) o0 q0 o1).mono ?_
    rintro e w14 ⟨v211, rfl, ho212, h14⟩
    obtain ⟨a213, c214, rfl⟩ := ho212.form
    have f215 : OwnTun w13.heap.size w14.heap.size w14 (.agg #[.string (thinV (x0) (n1)).name, .slice a213 (thinV (x0) (n1)).tones.length c214]) (thinV (x0) (n1)) := ho212
    clear ho212
    have sz14 : w13.heap.size ≤ w14.heap.size := h14.size
    have bw14 : Below w.heap.size w w14 := bw13.trans (h14.mono bw13.size)
    have f217 := f194.mono h14
    have f218 := f195.mono h14
    have f219 := f196.mono h14
    have f220 := f197.mono h14
    have f221 := f198.mono h14
    have f222 := f192.mono h14
    have x223 : w14.cell? ⟨w.heap.size, 0, none⟩ = some (.string (x0).name) := cellB h14 x199
    have x224 : w14.cell? ⟨w.heap.size, 1, none⟩ = some (l0) := cellB h14 x200
    have l225 : w.heap.size < w14.heap.size := by omega
    have x226 : w14.cell? ⟨w3.heap.size, 0, none⟩ = some (.string (thinV (x0) (n1)).name) := cellB h14 x202
    have x227 : w14.cell? ⟨w3.heap.size, 1, none⟩ = some (.slice a16 (thinV (x0) (n1)).tones.length c17) := cellB h14 x203
    have l228 : w3.heap.size < w14.heap.size := by omega
    have x229 : w14.cell? ⟨w4.heap.size, 0, none⟩ = some (.string (x0).name) := cellB h14 x205
    have x230 : w14.cell? ⟨w4.heap.size, 1, none⟩ = some (.slice a26 (x0).tones.length c27) := cellB h14 x206
    have l231 : w4.heap.size < w14.heap.size := by omega
    have x232 : w14.cell? ⟨w5.heap.size, 0, none⟩ = some (.string (thinV (x0) (n1)).name) := cellB h14 x208
    have x233 : w14.cell? ⟨w5.heap.size, 1, none⟩ = some (.slice a40 (thinV (x0) (n1)).tones.length c41) := cellB h14 x209
    have l234 : w5.heap.size < w14.heap.size := by omega
    clear f194 f195 f196 f197 f198 f192 x199 x200 l201 x202 x203 l204 x205 x206 l207 x208 x209 l210
    go_wp2_with fail
    refine (eqTunK _ _ (thinV (x0) (n1)) _ ((OwnTun.rd f215).mono (by (repeat (first | with_reducible exact Below.refl _ _ | with_reducible exact hbw | (with_reducible refine Below.setCell ?_ ?_ _; rotate_left; · first | exact Nat.le_refl _ | omega | (simp; done) | (simp; omega)) | (with_reducible refine Below.alloc ?_ ?_ _; rotate_left; · first | exact Nat.le_refl _ | omega | (simp; done) | (simp; omega)) | with_reducible refine below_drewN ?_ _ | with_reducible refine Below.drew ?_)))) ((OwnTun.rd f218).mono (by (repeat (first | with_reducible exact Below.refl _ _ | with_reducible exact hbw | (with_reducible refine Below.setCell ?_ ?_ _; rotate_left; · first | exact Nat.le_refl _ | omega | (simp; done) | (simp; omega)) | (with_reducible refine Below.alloc ?_ ?_ _; rotate_left; · first | exact Nat.le_refl _ | omega | (simp; done) | (simp; omega)) | with_reducible refine below_drewN ?_ _ | with_reducible refine Below.drew ?_))))).mono ?_
    rintro e w15 ⟨rfl, h15⟩
    have st235 : Below w14.heap.size w14 w15 := Below.trans (by (repeat (first | with_reducible exact Below.refl _ _ | with_reducible exact hbw | (with_reducible refine Below.setCell ?_ ?_ _; rotate_left; · first | exact Nat.le_refl _ | omega | (simp; done) | (simp; omega)) | (with_reducible refine Below.alloc ?_ ?_ _; rotate_left; · first | exact Nat.le_refl _ | omega | (simp; done) | (simp; omega)) | with_reducible refine below_drewN ?_ _ | with_reducible refine Below.drew ?_))) (h15.mono (by first | exact Nat.le_refl _ | omega | (simp; done) | (simp; omega)))
    have sz15 : w14.heap.size + 1 ≤ w15.heap.size := by have := h15.size; simp at this ⊢; omega
    have bw15 : Below w.heap.size w w15 := bw14.trans (st235.mono bw14.size)
    have f236 := f217.mono st235
    have f237 := f218.mono st235
    have f238 := f219.mono st235
    have f239 := f220.mono st235
    have f240 := f221.mono st235
    have f241 := f222.mono st235
    have f242 := f215.mono st235
    have x243 : w15.cell? ⟨w.heap.size, 0, none⟩ = some (.string (x0).name) := cellB st235 x223
    have x244 : w15.cell? ⟨w.heap.size, 1, none⟩ = some (l0) := cellB st235 x224
    have l245 : w.heap.size < w15.heap.size := by omega
    have x246 : w15.cell? ⟨w3.heap.size, 0, none⟩ = some (.string (thinV (x0) (n1)).name) := cellB st235 x226
    have x247 : w15.cell? ⟨w3.heap.size, 1, none⟩ = some (.slice a16 (thinV (x0) (n1)).tones.length c17) := cellB st235 x227
    have l248 : w3.heap.size < w15.heap.size := by omega
    have x249 : w15.cell? ⟨w4.heap.size, 0, none⟩ = some (.string (x0).name) := cellB st235 x229
    have x250 : w15.cell? ⟨w4.heap.size, 1, none⟩ = some (.slice a26 (x0).tones.length c27) := cellB st235 x230
    have l251 : w4.heap.size < w15.heap.size := by omega
    have x252 : w15.cell? ⟨w5.heap.size, 0, none⟩ = some (.string (thinV (x0) (n1)).name) := cellB st235 x232
    have x253 : w15.cell? ⟨w5.heap.size, 1, none⟩ = some (.slice a40 (thinV (x0) (n1)).tones.length c41) := cellB st235 x233
    have l254 : w5.heap.size < w15.heap.size := by omega
    have x255 : w15.cell? ⟨w14.heap.size, 0, none⟩ = some (.string (thinV (x0) (n1)).name) := cellB h15 (by simp [go_sem])
    have x256 : w15.cell? ⟨w14.heap.size, 1, none⟩ = some (.slice a213 (thinV (x0) (n1)).tones.length c214) := cellB h15 (by simp [go_sem])
    have l257 : w14.heap.size < w15.heap.size := by omega
    clear f217 f218 f219 f220 f221 f222 f215 x223 x224 l225 x226 x227 l228 x229 x230 l231 x232 x233 l234 h15
    go_wp2_with fail
    refine (heldTunK _ _ _ (thinV (x0) (n1)) (1) _ f239 (by omega) (by have := hbd; omega)).mono ?_
    rintro e w16 ⟨rfl, h16⟩
    have sz16 : w15.heap.size ≤ w16.heap.size := h16.size
    have bw16 : Below w.heap.size w w16 := bw15.trans (h16.mono bw15.size)
    have f259 := f236.mono h16
    have f260 := f237.mono h16
    have f261 := f238.mono h16
    have f262 := f239.mono h16
    have f263 := f240.mono h16
    have f264 := f241.mono h16
    have f265 := f242.mono h16
    have x266 : w16.cell? ⟨w.heap.size, 0, none⟩ = some (.string (x0).name) := cellB h16 x243
    have x267 : w16.cell? ⟨w.heap.size, 1, none⟩ = some (l0) := cellB h16 x244
    have l268 : w.heap.size < w16.heap.size := by omega
    have x269 : w16.cell? ⟨w3.heap.size, 0, none⟩ = some (.string (thinV (x0) (n1)).name) := cellB h16 x246
    have x270 : w16.cell? ⟨w3.heap.size, 1, none⟩ = some (.slice a16 (thinV (x0) (n1)).tones.length c17) := cellB h16 x247
    have l271 : w3.heap.size < w16.heap.size := by omega
    have x272 : w16.cell? ⟨w4.heap.size, 0, none⟩ = some (.string (x0).name) := cellB h16 x249
    have x273 : w16.cell? ⟨w4.heap.size, 1, none⟩ = some (.slice a26 (x0).tones.length c27) := cellB h16 x250
    have l274 : w4.heap.size < w16.heap.size := by omega
    have x275 : w16.cell? ⟨w5.heap.size, 0, none⟩ = some (.string (thinV (x0) (n1)).name) := cellB h16 x252
    have x276 : w16.cell? ⟨w5.heap.size, 1, none⟩ = some (.slice a40 (thinV (x0) (n1)).tones.length c41) := cellB h16 x253
    have l277 : w5.heap.size < w16.heap.size := by omega
    have x278 : w16.cell? ⟨w14.heap.size, 0, none⟩ = some (.string (thinV (x0) (n1)).name) := cellB h16 x255
    have x279 : w16.cell? ⟨w14.heap.size, 1, none⟩ = some (.slice a213 (thinV (x0) (n1)).tones.length c214) := cellB h16 x256
    have l280 : w14.heap.size < w16.heap.size := by omega
    clear f236 f237 f238 f239 f240 f241 f242 x243 x244 l245 x246 x247 l248 x249 x250 l251 x252 x253 l254 x255 x256 l257
    go_wp2
    go_ret
    exact ⟨rfl, bw16⟩
  · skip
    go_enter Try.func11, Try.ntmps11
    go_wp2_with fail
    refine (szTunN _ (x0) (1048576) _ (r0.mono (by (repeat (first | with_reducible exact Below.refl _ _ | with_reducible exact hbw | (with_reducible refine Below.setCell ?_ ?_ _; rotate_left; · first | exact Nat.le_refl _ | omega | (simp; done) | (simp; omega)) | (with_reducible refine Below.alloc ?_ ?_ _; rotate_left; · first | exact Nat.le_refl _ | omega | (simp; done) | (simp; omega)) | with_reducible refine below_drewN ?_ _ | with_reducible refine Below.drew ?_)))) o0 (by omega) (by omega) (by omega)).mono ?_
    rintro e w1 ⟨rfl, h1⟩
    have bw1 : Below w.heap.size w w1 := Below.trans (by (repeat (first | with_reducible exact Below.refl _ _ | with_reducible exact hbw | (with_reducible refine Below.setCell ?_ ?_ _; rotate_left; · first | exact Nat.le_refl _ | omega | (simp; done) | (simp; omega)) | (with_reducible refine Below.alloc ?_ ?_ _; rotate_left; · first | exact Nat.le_refl _ | omega | (simp; done) | (simp; omega)) | with_reducible refine below_drewN ?_ _ | with_reducible refine Below.drew ?_))) (h1.mono (by simp <;> omega))
    go_wp2
    go_ret
    exact ⟨rfl, bw1⟩

end Go.Proofs.Ytgelilelmmocgaa
