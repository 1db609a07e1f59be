/- The law FnExactBestShift returns true and leaves memory as it was. -/
import Derived.Test.YtemmnjokojgjaaaArrZ
import Derived.Test.YtemmnjokojgjaaaKTun
set_option linter.unusedSimpArgs false
set_option linter.unnecessarySimpa false
set_option linter.unusedVariables false
set_option maxRecDepth 100000
namespace Go.Proofs.Ytemmnjokojgjaaa
open Go.RowKit

set_option maxHeartbeats 4000000 in
theorem lawBestShift (w : World) (v0 : Value) (y0 : Value × TunD) (h0 : Tun w v0 y0.1 y0.2) (o0 : y0.2.ok) (v1 : Value) (x1 : List Int) (h1 : Ints w v1 x1) (o1 : ∀ x ∈ x1, I64 x) :
    Calls Try.prog 5 #[v0, v1] w fun e w' => e = .returned (.bool true) ∧ Below w.heap.size w w' := by
  obtain ⟨l0, x0⟩ := y0
  obtain ⟨rfl, hl0⟩ := h0
  simp only at hl0 o0 ⊢
  have r0 : RdTun w (.agg #[.string (x0).name, l0]) x0 := ⟨l0, rfl, hl0⟩
  have r1 : RdInts w v1 x1 := h1
  obtain ⟨a10, c10, rfl, hca, hcm, _⟩ := id h1
  have m1 : x1.length ≤ maxLen := by omega
  clear hca hcm
  unfold maxLen at m1
  by_cases g0 : x1.length ≤ 1048576
  · skip
    by_cases g1 : szTun x0 ≤ 1048576
    · skip
      have q1 : x1.length ≤ 1048576 := g0
      have q0 : (x0).tones.length ≤ 1048576 := by have := g1; unfold szTun at this; omega
      go_enter Try.func5, Try.ntmps5
      go_wp2_with fail
      refine (szTunY _ (x0) (1048576) _ (r0.mono (by (repeat (first | with_reducible exact Below.refl _ _ | with_reducible exact hbw | (with_reducible refine Below.setCell ?_ ?_ _; rotate_left; · first | exact Nat.le_refl _ | omega | (simp; done) | (simp; omega)) | (with_reducible refine Below.alloc ?_ ?_ _; rotate_left; · first | exact Nat.le_refl _ | omega | (simp; done) | (simp; omega)) | with_reducible refine below_drewN ?_ _ | with_reducible refine Below.drew ?_)))) o0 (by omega) (by omega) (by omega)).mono ?_
      rintro e w1 ⟨rfl, h1⟩
      have st1 : Below w.heap.size w w1 := Below.trans (by (repeat (first | with_reducible exact Below.refl _ _ | with_reducible exact hbw | (with_reducible refine Below.setCell ?_ ?_ _; rotate_left; · first | exact Nat.le_refl _ | omega | (simp; done) | (simp; omega)) | (with_reducible refine Below.alloc ?_ ?_ _; rotate_left; · first | exact Nat.le_refl _ | omega | (simp; done) | (simp; omega)) | with_reducible refine below_drewN ?_ _ | with_reducible refine Below.drew ?_))) (h1.mono (by first | exact Nat.le_refl _ | omega | (simp; done) | (simp; omega)))
      have sz1 : w.heap.size + 1 ≤ w1.heap.size := by have := h1.size; simp at this ⊢; omega
      have bw1 : Below w.heap.size w w1 := st1
      have x2 : w1.cell? ⟨w.heap.size, 0, none⟩ = some (.string (x0).name) := cellB h1 (by simp [go_sem])
      have x3 : w1.cell? ⟨w.heap.size, 1, none⟩ = some (l0) := cellB h1 (by simp [go_sem])
      have l4 : w.heap.size < w1.heap.size := by omega
      clear h1
      go_wp2_with fail
      refine (toTunK _ (x0) _ (r0.mono (by have hbw := bw1; (repeat (first | with_reducible exact Below.refl _ _ | with_reducible exact hbw | (with_reducible refine Below.setCell ?_ ?_ _; rotate_left; · first | exact Nat.le_refl _ | omega | (simp; done) | (simp; omega)) | (with_reducible refine Below.alloc ?_ ?_ _; rotate_left; · first | exact Nat.le_refl _ | omega | (simp; done) | (simp; omega)) | with_reducible refine below_drewN ?_ _ | with_reducible refine Below.drew ?_)))) q0).mono ?_
      rintro e w2 ⟨v5, rfl, ho6, h2⟩
      obtain ⟨a7, c8, rfl⟩ := ho6.form
      have f9 : OwnTun w1.heap.size w2.heap.size w2 (.agg #[.string (x0).name, .slice a7 (x0).tones.length c8]) (x0) := ho6
      clear ho6
      have sz2 : w1.heap.size ≤ w2.heap.size := h2.size
      have bw2 : Below w.heap.size w w2 := bw1.trans (h2.mono bw1.size)
      have x11 : w2.cell? ⟨w.heap.size, 0, none⟩ = some (.string (x0).name) := cellB h2 x2
      have x12 : w2.cell? ⟨w.heap.size, 1, none⟩ = some (l0) := cellB h2 x3
      have l13 : w.heap.size < w2.heap.size := by omega
      clear x2 x3 l4
      go_wp2_with fail
      refine (toIntsK _ (x1) _ (r1.mono (by have hbw := bw2; (repeat (first | with_reducible exact Below.refl _ _ | with_reducible exact hbw | (with_reducible refine Below.setCell ?_ ?_ _; rotate_left; · first | exact Nat.le_refl _ | omega | (simp; done) | (simp; omega)) | (with_reducible refine Below.alloc ?_ ?_ _; rotate_left; · first | exact Nat.le_refl _ | omega | (simp; done) | (simp; omega)) | with_reducible refine below_drewN ?_ _ | with_reducible refine Below.drew ?_)))) q1).mono ?_
      rintro e w3 ⟨v14, rfl, ho15, h3⟩
      obtain ⟨a16, c17, rfl⟩ := ho15.form
      have f18 : OwnInts w2.heap.size w3.heap.size w3 (.slice a16 (x1).length c17) (x1) := ho15
      clear ho15
      have sz3 : w2.heap.size ≤ w3.heap.size := h3.size
      have bw3 : Below w.heap.size w w3 := bw2.trans (h3.mono bw2.size)
      have f20 := f9.mono h3
      have x21 : w3.cell? ⟨w.heap.size, 0, none⟩ = some (.string (x0).name) := cellB h3 x11
      have x22 : w3.cell? ⟨w.heap.size, 1, none⟩ = some (l0) := cellB h3 x12
      have l23 : w.heap.size < w3.heap.size := by omega
      clear f9 x11 x12 l13
      go_wp2_with fail
      refine (specBestShift_any _ (x0) _ (x1) _ (OwnTun.rd f20) o0 q0 (OwnInts.rd f18) o1 q1).mono ?_
      rintro e w4 ⟨rfl, h4⟩
      have sz4 : w3.heap.size ≤ w4.heap.size := h4.size
      have bw4 : Below w.heap.size w w4 := bw3.trans (h4.mono bw3.size)
      have f25 := f20.mono h4
      have f26 := f18.mono h4
      have x27 : w4.cell? ⟨w.heap.size, 0, none⟩ = some (.string (x0).name) := cellB h4 x21
      have x28 : w4.cell? ⟨w.heap.size, 1, none⟩ = some (l0) := cellB h4 x22
      have l29 : w.heap.size < w4.heap.size := by omega
      clear f20 f18 x21 x22 l23
      go_wp2_with fail
      refine (toTunK _ (x0) _ (r0.mono (by have hbw := bw4; (repeat (first | with_reducible exact Below.refl _ _ | with_reducible exact hbw | (with_reducible refine Below.setCell ?_ ?_ _; rotate_left; · first | exact Nat.le_refl _ | omega | (simp; done) | (simp; omega)) | (with_reducible refine Below.alloc ?_ ?_ _; rotate_left; · first | exact Nat.le_refl _ | omega | (simp; done) | (simp; omega)) | with_reducible refine below_drewN ?_ _ | with_reducible refine Below.drew ?_)))) q0).mono ?_
      rintro e w5 ⟨v30, rfl, ho31, h5⟩
      obtain ⟨a32, c33, rfl⟩ := ho31.form
      have f34 : OwnTun w4.heap.size w5.heap.size w5 (.agg #[.string (x0).name, .slice a32 (x0).tones.length c33]) (x0) := ho31
      clear ho31
      have sz5 : w4.heap.size ≤ w5.heap.size := h5.size
      have bw5 : Below w.heap.size w w5 := bw4.trans (h5.mono bw4.size)
      have f36 := f25.mono h5
      have f37 := f26.mono h5
      have x38 : w5.cell? ⟨w.heap.size, 0, none⟩ = some (.string (x0).name) := cellB h5 x27
      have x39 : w5.cell? ⟨w.heap.size, 1, none⟩ = some (l0) := cellB h5 x28
      have l40 : w.heap.size < w5.heap.size := by omega
      clear f25 f26 x27 x28 l29
      go_wp2_with fail
      refine (toIntsK _ (x1) _ (r1.mono (by have hbw := bw5; (repeat (first | with_reducible exact Below.refl _ _ | with_reducible exact hbw | (with_reducible refine Below.setCell ?_ ?_ _; rotate_left; · first | exact Nat.le_refl _ | omega | (simp; done) | (simp; omega)) | (with_reducible refine Below.alloc ?_ ?_ _; rotate_left; · first | exact Nat.le_refl _ | omega | (simp; done) | (simp; omega)) | with_reducible refine below_drewN ?_ _ | with_reducible refine Below.drew ?_)))) q1).mono ?_
      rintro e w6 ⟨v41, rfl, ho42, h6⟩
      obtain ⟨a43, c44, rfl⟩ := ho42.form
      have f45 : OwnInts (w5.heap.size + 1) w6.heap.size w6 (.slice a43 (x1).length c44) (x1) := ho42.wide (by simp) (Nat.le_refl _)
      clear ho42
      have st46 : Below w5.heap.size w5 w6 := Below.trans (by (repeat (first | with_reducible exact Below.refl _ _ | with_reducible exact hbw | (with_reducible refine Below.setCell ?_ ?_ _; rotate_left; · first | exact Nat.le_refl _ | omega | (simp; done) | (simp; omega)) | (with_reducible refine Below.alloc ?_ ?_ _; rotate_left; · first | exact Nat.le_refl _ | omega | (simp; done) | (simp; omega)) | with_reducible refine below_drewN ?_ _ | with_reducible refine Below.drew ?_))) (h6.mono (by first | exact Nat.le_refl _ | omega | (simp; done) | (simp; omega)))
      have sz6 : w5.heap.size + 1 ≤ w6.heap.size := by have := h6.size; simp at this ⊢; omega
      have bw6 : Below w.heap.size w w6 := bw5.trans (st46.mono bw5.size)
      have f47 := f36.mono st46
      have f48 := f37.mono st46
      have f49 := f34.mono st46
      have x50 : w6.cell? ⟨w.heap.size, 0, none⟩ = some (.string (x0).name) := cellB st46 x38
      have x51 : w6.cell? ⟨w.heap.size, 1, none⟩ = some (l0) := cellB st46 x39
      have l52 : w.heap.size < w6.heap.size := by omega
      have x53 : w6.cell? ⟨w5.heap.size, 0, none⟩ = some (.string (x0).name) := cellB h6 (by simp [go_sem])
      have x54 : w6.cell? ⟨w5.heap.size, 1, none⟩ = some (.slice a32 (x0).tones.length c33) := cellB h6 (by simp [go_sem])
      have l55 : w5.heap.size < w6.heap.size := by omega
      clear f36 f37 f34 x38 x39 l40 h6
      go_wp2_with fail
      refine (implBestShift_any _ (x0) _ (x1) _ (OwnTun.rd f49) o0 q0 (OwnInts.rd f45) o1 q1).mono ?_
      rintro e w7 ⟨rfl, h7⟩
      have sz7 : w6.heap.size ≤ w7.heap.size := h7.size
      have bw7 : Below w.heap.size w w7 := bw6.trans (h7.mono bw6.size)
      have f57 := f47.mono h7
      have f58 := f48.mono h7
      have f59 := f49.mono h7
      have f60 := f45.mono h7
      have x61 : w7.cell? ⟨w.heap.size, 0, none⟩ = some (.string (x0).name) := cellB h7 x50
      have x62 : w7.cell? ⟨w.heap.size, 1, none⟩ = some (l0) := cellB h7 x51
      have l63 : w.heap.size < w7.heap.size := by omega
      have x64 : w7.cell? ⟨w5.heap.size, 0, none⟩ = some (.string (x0).name) := cellB h7 x53
      have x65 : w7.cell? ⟨w5.heap.size, 1, none⟩ = some (.slice a32 (x0).tones.length c33) := cellB h7 x54
      have l66 : w5.heap.size < w7.heap.size := by omega
      clear f47 f48 f49 f45 x50 x51 l52 x53 x54 l55
      go_wp2_with fail
      refine wp_region_ord [(0, true), (1, true), (2, false), (3, false), (4, true)] (none) (by kernel_rfl) (by kernel_rfl) ?_
      (repeat (with_reducible refine wpOrd_soft (fun K hK => ?_); simp only [List.getElem?_toArray, List.getElem?_cons_zero, List.getElem?_cons_succ]; first | (go_simp; refine hK _ ?_) | (simp only [undef]; go_simp; refine hK _ ?_); clear hK K))
      (with_reducible refine wpOrd_hard ?_; simp only [List.getElem?_toArray, List.getElem?_cons_zero, List.getElem?_cons_succ])
      go_wp2_with fail
      refine (toTunK _ (x0) _ (r0.mono (by have hbw := bw7; (repeat (first | with_reducible exact Below.refl _ _ | with_reducible exact hbw | (with_reducible refine Below.setCell ?_ ?_ _; rotate_left; · first | exact Nat.le_refl _ | omega | (simp; done) | (simp; omega)) | (with_reducible refine Below.alloc ?_ ?_ _; rotate_left; · first | exact Nat.le_refl _ | omega | (simp; done) | (simp; omega)) | with_reducible refine below_drewN ?_ _ | with_reducible refine Below.drew ?_)))) q0).mono ?_
      rintro e w8 ⟨v67, rfl, ho68, h8⟩
      obtain ⟨a69, c70, rfl⟩ := ho68.form
      have f71 : OwnTun w7.heap.size w8.heap.size w8 (.agg #[.string (x0).name, .slice a69 (x0).tones.length c70]) (x0) := ho68
      clear ho68
      have st72 : Below w7.heap.size w7 w8 := undrew h8
      have sz8 : w7.heap.size ≤ w8.heap.size := st72.size
      have bw8 : Below w.heap.size w w8 := bw7.trans (st72.mono bw7.size)
      have f73 := f57.mono st72
      have f74 := f58.mono st72
      have f75 := f59.mono st72
      have f76 := f60.mono st72
      have x77 : w8.cell? ⟨w.heap.size, 0, none⟩ = some (.string (x0).name) := cellB st72 x61
      have x78 : w8.cell? ⟨w.heap.size, 1, none⟩ = some (l0) := cellB st72 x62
      have l79 : w.heap.size < w8.heap.size := by omega
      have x80 : w8.cell? ⟨w5.heap.size, 0, none⟩ = some (.string (x0).name) := cellB st72 x64
      have x81 : w8.cell? ⟨w5.heap.size, 1, none⟩ = some (.slice a32 (x0).tones.length c33) := cellB st72 x65
      have l82 : w5.heap.size < w8.heap.size := by omega
      clear f57 f58 f59 f60 x61 x62 l63 x64 x65 l66 h8
      go_wp2_with fail
      refine ⟨grown_of_below st72, ?_⟩
      (repeat (with_reducible refine wpOrd_soft (fun K hK => ?_); simp only [List.getElem?_toArray, List.getElem?_cons_zero, List.getElem?_cons_succ]; first | (go_simp; refine hK _ ?_) | (simp only [undef]; go_simp; refine hK _ ?_); clear hK K))
      (with_reducible refine wpOrd_hard ?_; simp only [List.getElem?_toArray, List.getElem?_cons_zero, List.getElem?_cons_succ])
      go_wp2_with fail
      refine (eqTunK _ _ (x0) _ (OwnTun.rd f75) (OwnTun.rd f71)).mono ?_
      rintro e w9 ⟨rfl, h9⟩
      have sz9 : w8.heap.size ≤ w9.heap.size := h9.size
      have bw9 : Below w.heap.size w w9 := bw8.trans (h9.mono bw8.size)
      have f84 := f73.mono h9
      have f85 := f74.mono h9
      have f86 := f75.mono h9
      have f87 := f76.mono h9
      have f88 := f71.mono h9
      have x89 : w9.cell? ⟨w.heap.size, 0, none⟩ = some (.string (x0).name) := cellB h9 x77
      have x90 : w9.cell? ⟨w.heap.size, 1, none⟩ = some (l0) := cellB h9 x78
      have l91 : w.heap.size < w9.heap.size := by omega
      have x92 : w9.cell? ⟨w5.heap.size, 0, none⟩ = some (.string (x0).name) := cellB h9 x80
      have x93 : w9.cell? ⟨w5.heap.size, 1, none⟩ = some (.slice a32 (x0).tones.length c33) := cellB h9 x81
      have l94 : w5.heap.size < w9.heap.size := by omega
      clear f73 f74 f75 f76 f71 x77 x78 l79 x80 x81 l82
      have rg95 : Below w7.heap.size w7 w9 := st72.trans (h9.mono st72.size)
      go_wp2_with fail
      refine ⟨grown_of_below rg95, ?_⟩
      (repeat (with_reducible refine wpOrd_soft (fun K hK => ?_); simp only [List.getElem?_toArray, List.getElem?_cons_zero, List.getElem?_cons_succ]; first | (go_simp; refine hK _ ?_) | (simp only [undef]; go_simp; refine hK _ ?_); clear hK K))
      (with_reducible refine wpOrd_nil ?_); refine NoPanic.normal ?_
      go_wp2_with fail
      refine (toIntsK _ (x1) _ (r1.mono (by have hbw := bw9; (repeat (first | with_reducible exact Below.refl _ _ | with_reducible exact hbw | (with_reducible refine Below.setCell ?_ ?_ _; rotate_left; · first | exact Nat.le_refl _ | omega | (simp; done) | (simp; omega)) | (with_reducible refine Below.alloc ?_ ?_ _; rotate_left; · first | exact Nat.le_refl _ | omega | (simp; done) | (simp; omega)) | with_reducible refine below_drewN ?_ _ | with_reducible refine Below.drew ?_)))) q1).mono ?_
      rintro e w10 ⟨v96, rfl, ho97, h10⟩
      obtain ⟨a98, c99, rfl⟩ := ho97.form
      have f100 : OwnInts w9.heap.size w10.heap.size w10 (.slice a98 (x1).length c99) (x1) := ho97
      clear ho97
      have sz10 : w9.heap.size ≤ w10.heap.size := h10.size
      have bw10 : Below w.heap.size w w10 := bw9.trans (h10.mono bw9.size)
      have f102 := f84.mono h10
      have f103 := f85.mono h10
      have f104 := f86.mono h10
      have f105 := f87.mono h10
      have f106 := f88.mono h10
      have x107 : w10.cell? ⟨w.heap.size, 0, none⟩ = some (.string (x0).name) := cellB h10 x89
      have x108 : w10.cell? ⟨w.heap.size, 1, none⟩ = some (l0) := cellB h10 x90
      have l109 : w.heap.size < w10.heap.size := by omega
      have x110 : w10.cell? ⟨w5.heap.size, 0, none⟩ = some (.string (x0).name) := cellB h10 x92
      have x111 : w10.cell? ⟨w5.heap.size, 1, none⟩ = some (.slice a32 (x0).tones.length c33) := cellB h10 x93
      have l112 : w5.heap.size < w10.heap.size := by omega
      clear f84 f85 f86 f87 f88 x89 x90 l91 x92 x93 l94
      go_wp2_with fail
      refine (eqIntsK _ _ (x1) _ (OwnInts.rd f105) (OwnInts.rd f100)).mono ?_
      rintro e w11 ⟨rfl, h11⟩
      have sz11 : w10.heap.size ≤ w11.heap.size := h11.size
      have bw11 : Below w.heap.size w w11 := bw10.trans (h11.mono bw10.size)
      have f114 := f102.mono h11
      have f115 := f103.mono h11
      have f116 := f104.mono h11
      have f117 := f105.mono h11
      have f118 := f106.mono h11
      have f119 := f100.mono h11
      have x120 : w11.cell? ⟨w.heap.size, 0, none⟩ = some (.string (x0).name) := cellB h11 x107
      have x121 : w11.cell? ⟨w.heap.size, 1, none⟩ = some (l0) := cellB h11 x108
      have l122 : w.heap.size < w11.heap.size := by omega
      have x123 : w11.cell? ⟨w5.heap.size, 0, none⟩ = some (.string (x0).name) := cellB h11 x110
      have x124 : w11.cell? ⟨w5.heap.size, 1, none⟩ = some (.slice a32 (x0).tones.length c33) := cellB h11 x111
      have l125 : w5.heap.size < w11.heap.size := by omega
      clear f102 f103 f104 f105 f106 f100 x107 x108 l109 x110 x111 l112
      go_wp2
      go_ret
      exact ⟨rfl, bw11⟩
    · skip
      go_enter Try.func5, Try.ntmps5
      go_wp2_with fail
      refine (szTunN _ (x0) (1048576) _ (r0.mono (by (repeat (first | with_reducible exact Below.refl _ _ | with_reducible exact hbw | (with_reducible refine Below.setCell ?_ ?_ _; rotate_left; · first | exact Nat.le_refl _ | omega | (simp; done) | (simp; omega)) | (with_reducible refine Below.alloc ?_ ?_ _; rotate_left; · first | exact Nat.le_refl _ | omega | (simp; done) | (simp; omega)) | with_reducible refine below_drewN ?_ _ | with_reducible refine Below.drew ?_)))) o0 (by omega) (by omega) (by omega)).mono ?_
      rintro e w1 ⟨rfl, h1⟩
      have bw1 : Below w.heap.size w w1 := Below.trans (by (repeat (first | with_reducible exact Below.refl _ _ | with_reducible exact hbw | (with_reducible refine Below.setCell ?_ ?_ _; rotate_left; · first | exact Nat.le_refl _ | omega | (simp; done) | (simp; omega)) | (with_reducible refine Below.alloc ?_ ?_ _; rotate_left; · first | exact Nat.le_refl _ | omega | (simp; done) | (simp; omega)) | with_reducible refine below_drewN ?_ _ | with_reducible refine Below.drew ?_))) (h1.mono (by simp <;> omega))
      go_wp2
      go_ret
      exact ⟨rfl, bw1⟩
  · skip
    go_enter Try.func5, Try.ntmps5
    go_wp2
    go_ret
    refine ⟨rfl, ?_⟩
    (repeat (first | with_reducible exact Below.refl _ _ | with_reducible exact hbw | (with_reducible refine Below.setCell ?_ ?_ _; rotate_left; · first | exact Nat.le_refl _ | omega | (simp; done) | (simp; omega)) | (with_reducible refine Below.alloc ?_ ?_ _; rotate_left; · first | exact Nat.le_refl _ | omega | (simp; done) | (simp; omega)) | with_reducible refine below_drewN ?_ _ | with_reducible refine Below.drew ?_))

end Go.Proofs.Ytemmnjokojgjaaa
