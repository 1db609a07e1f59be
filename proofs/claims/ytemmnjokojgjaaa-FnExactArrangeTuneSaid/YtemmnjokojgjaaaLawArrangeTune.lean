/- The law FnExactArrangeTune returns true and leaves memory as it was. -/
import Derived.Test.YtemmnjokojgjaaaArrT
import Derived.Test.YtemmnjokojgjaaaKTun
set_option linter.unusedSimpArgs false
set_option linter.unnecessarySimpa false
set_option linter.unusedVariables false
set_option maxRecDepth 100000
namespace Go.Proofs.Ytemmnjokojgjaaa
open Go.RowKit

set_option maxHeartbeats 4000000 in
theorem lawArrangeTune (w : World) (v0 : Value) (y0 : Value × TunD) (h0 : Tun w v0 y0.1 y0.2) (o0 : y0.2.ok) (v1 : Value) (x1 : List Int) (h1 : Ints w v1 x1) (o1 : ∀ x ∈ x1, I64 x) (n2 : Int) (o2 : I64 n2) :
    Calls Try.prog 3 #[v0, v1, .int .i64 n2] w fun e w' => e = .returned (.bool true) ∧ Below w.heap.size w w' := by
  obtain ⟨l0, x0⟩ := y0
  obtain ⟨rfl, hl0⟩ := h0
  simp only at hl0 o0 ⊢
  have r0 : RdTun w (.agg #[.string (x0).name, l0]) x0 := ⟨l0, rfl, hl0⟩
  have r1 : RdInts w v1 x1 := h1
  obtain ⟨a10, c10, rfl, hca, hcm, _⟩ := id h1
  have m1 : x1.length ≤ maxLen := by omega
  clear hca hcm
  unfold maxLen at m1
  by_cases g0 : x1.length ≤ 1048576
  · skip
    by_cases g1 : szTun x0 ≤ 1048576
    · skip
      have q1 : x1.length ≤ 1048576 := g0
      have q0 : (x0).tones.length ≤ 1048576 := by have := g1; unfold szTun at this; omega
      have hbd := at_len x0 x1 n2
      go_enter Try.func3, Try.ntmps3
      go_wp2_with fail
      refine (szTunY _ (x0) (1048576) _ (r0.mono (by (repeat (first | with_reducible exact Below.refl _ _ | with_reducible exact hbw | (with_reducible refine Below.setCell ?_ ?_ _; rotate_left; · first | exact Nat.le_refl _ | omega | (simp; done) | (simp; omega)) | (with_reducible refine Below.alloc ?_ ?_ _; rotate_left; · first | exact Nat.le_refl _ | omega | (simp; done) | (simp; omega)) | with_reducible refine below_drewN ?_ _ | with_reducible refine Below.drew ?_)))) o0 (by omega) (by omega) (by omega)).mono ?_
      rintro e w1 ⟨rfl, h1⟩
      have st1 : Below w.heap.size w w1 := Below.trans (by (repeat (first | with_reducible exact Below.refl _ _ | with_reducible exact hbw | (with_reducible refine Below.setCell ?_ ?_ _; rotate_left; · first | exact Nat.le_refl _ | omega | (simp; done) | (simp; omega)) | (with_reducible refine Below.alloc ?_ ?_ _; rotate_left; · first | exact Nat.le_refl _ | omega | (simp; done) | (simp; omega)) | with_reducible refine below_drewN ?_ _ | with_reducible refine Below.drew ?_))) (h1.mono (by first | exact Nat.le_refl _ | omega | (simp; done) | (simp; omega)))
      have sz1 : w.heap.size + 1 ≤ w1.heap.size := by have := h1.size; simp at this ⊢; omega
      have bw1 : Below w.heap.size w w1 := st1
      have x2 : w1.cell? ⟨w.heap.size, 0, none⟩ = some (.string (x0).name) := cellB h1 (by simp [go_sem])
      have x3 : w1.cell? ⟨w.heap.size, 1, none⟩ = some (l0) := cellB h1 (by simp [go_sem])
      have l4 : w.heap.size < w1.heap.size := by omega
      clear h1
      go_wp2_with fail
      refine (toTunK _ (x0) _ (r0.mono (by have hbw := bw1; (repeat (first | with_reducible exact Below.refl _ _ | with_reducible exact hbw | (with_reducible refine Below.setCell ?_ ?_ _; rotate_left; · first | exact Nat.le_refl _ | omega | (simp; done) | (simp; omega)) | (with_reducible refine Below.alloc ?_ ?_ _; rotate_left; · first | exact Nat.le_refl _ | omega | (simp; done) | (simp; omega)) | with_reducible refine below_drewN ?_ _ | with_reducible refine Below.drew ?_)))) q0).mono ?_
      rintro e w2 ⟨v5, rfl, ho6, h2⟩
      obtain ⟨a7, c8, rfl⟩ := ho6.form
      have f9 : OwnTun w1.heap.size w2.heap.size w2 (.agg #[.string (x0).name, .slice a7 (x0).tones.length c8]) (x0) := ho6
      clear ho6
      have sz2 : w1.heap.size ≤ w2.heap.size := h2.size
      have bw2 : Below w.heap.size w w2 := bw1.trans (h2.mono bw1.size)
      have x11 : w2.cell? ⟨w.heap.size, 0, none⟩ = some (.string (x0).name) := cellB h2 x2
      have x12 : w2.cell? ⟨w.heap.size, 1, none⟩ = some (l0) := cellB h2 x3
      have l13 : w.heap.size < w2.heap.size := by omega
      clear x2 x3 l4
      go_wp2_with fail
      refine (toIntsK _ (x1) _ (r1.mono (by have hbw := bw2; (repeat (first | with_reducible exact Below.refl _ _ | with_reducible exact hbw | (with_reducible refine Below.setCell ?_ ?_ _; rotate_left; · first | exact Nat.le_refl _ | omega | (simp; done) | (simp; omega)) | (with_reducible refine Below.alloc ?_ ?_ _; rotate_left; · first | exact Nat.le_refl _ | omega | (simp; done) | (simp; omega)) | with_reducible refine below_drewN ?_ _ | with_reducible refine Below.drew ?_)))) q1).mono ?_
      rintro e w3 ⟨v14, rfl, ho15, h3⟩
      obtain ⟨a16, c17, rfl⟩ := ho15.form
      have f18 : OwnInts w2.heap.size w3.heap.size w3 (.slice a16 (x1).length c17) (x1) := ho15
      clear ho15
      have sz3 : w2.heap.size ≤ w3.heap.size := h3.size
      have bw3 : Below w.heap.size w w3 := bw2.trans (h3.mono bw2.size)
      have f20 := f9.mono h3
      have x21 : w3.cell? ⟨w.heap.size, 0, none⟩ = some (.string (x0).name) := cellB h3 x11
      have x22 : w3.cell? ⟨w.heap.size, 1, none⟩ = some (l0) := cellB h3 x12
      have l23 : w.heap.size < w3.heap.size := by omega
      clear f9 x11 x12 l13
      go_wp2_with fail
      refine (specArrangeTune_any _ (x0) _ (x1) (n2) _ (OwnTun.rd f20) o0 q0 (OwnInts.rd f18) o1 q1 o2).mono ?_
      rintro e w4 ⟨v24, rfl, ho25, h4⟩
      obtain ⟨a26, c27, rfl⟩ := ho25.form
      have f28 : OwnTun w3.heap.size w4.heap.size w4 (.agg #[.string (atV (x0) (x1) (n2)).name, .slice a26 (atV (x0) (x1) (n2)).tones.length c27]) (atV (x0) (x1) (n2)) := ho25
      clear ho25
      have sz4 : w3.heap.size ≤ w4.heap.size := h4.size
      have bw4 : Below w.heap.size w w4 := bw3.trans (h4.mono bw3.size)
      have f30 := f20.mono h4
      have f31 := f18.mono h4
      have x32 : w4.cell? ⟨w.heap.size, 0, none⟩ = some (.string (x0).name) := cellB h4 x21
      have x33 : w4.cell? ⟨w.heap.size, 1, none⟩ = some (l0) := cellB h4 x22
      have l34 : w.heap.size < w4.heap.size := by omega
      clear f20 f18 x21 x22 l23
      go_wp2_with fail
      refine (toTunK _ (x0) _ (r0.mono (by have hbw := bw4; (repeat (first | with_reducible exact Below.refl _ _ | with_reducible exact hbw | (with_reducible refine Below.setCell ?_ ?_ _; rotate_left; · first | exact Nat.le_refl _ | omega | (simp; done) | (simp; omega)) | (with_reducible refine Below.alloc ?_ ?_ _; rotate_left; · first | exact Nat.le_refl _ | omega | (simp; done) | (simp; omega)) | with_reducible refine below_drewN ?_ _ | with_reducible refine Below.drew ?_)))) q0).mono ?_
      rintro e w5 ⟨v35, rfl, ho36, h5⟩
      obtain ⟨a37, c38, rfl⟩ := ho36.form
      have f39 : OwnTun (w4.heap.size + 1) w5.heap.size w5 (.agg #[.string (x0).name, .slice a37 (x0).tones.length c38]) (x0) := ho36.wide (by simp) (Nat.le_refl _)
      clear ho36
      have st40 : Below w4.heap.size w4 w5 := Below.trans (by (repeat (first | with_reducible exact Below.refl _ _ | with_reducible exact hbw | (with_reducible refine Below.setCell ?_ ?_ _; rotate_left; · first | exact Nat.le_refl _ | omega | (simp; done) | (simp; omega)) | (with_reducible refine Below.alloc ?_ ?_ _; rotate_left; · first | exact Nat.le_refl _ | omega | (simp; done) | (simp; omega)) | with_reducible refine below_drewN ?_ _ | with_reducible refine Below.drew ?_))) (h5.mono (by first | exact Nat.le_refl _ | omega | (simp; done) | (simp; omega)))
      have sz5 : w4.heap.size + 1 ≤ w5.heap.size := by have := h5.size; simp at this ⊢; omega
      have bw5 : Below w.heap.size w w5 := bw4.trans (st40.mono bw4.size)
      have f41 := f30.mono st40
      have f42 := f31.mono st40
      have f43 := f28.mono st40
      have x44 : w5.cell? ⟨w.heap.size, 0, none⟩ = some (.string (x0).name) := cellB st40 x32
      have x45 : w5.cell? ⟨w.heap.size, 1, none⟩ = some (l0) := cellB st40 x33
      have l46 : w.heap.size < w5.heap.size := by omega
      have x47 : w5.cell? ⟨w4.heap.size, 0, none⟩ = some (.string (atV (x0) (x1) (n2)).name) := cellB h5 (by simp [go_sem])
      have x48 : w5.cell? ⟨w4.heap.size, 1, none⟩ = some (.slice a26 (atV (x0) (x1) (n2)).tones.length c27) := cellB h5 (by simp [go_sem])
      have l49 : w4.heap.size < w5.heap.size := by omega
      clear f30 f31 f28 x32 x33 l34 h5
      go_wp2_with fail
      refine (toIntsK _ (x1) _ (r1.mono (by have hbw := bw5; (repeat (first | with_reducible exact Below.refl _ _ | with_reducible exact hbw | (with_reducible refine Below.setCell ?_ ?_ _; rotate_left; · first | exact Nat.le_refl _ | omega | (simp; done) | (simp; omega)) | (with_reducible refine Below.alloc ?_ ?_ _; rotate_left; · first | exact Nat.le_refl _ | omega | (simp; done) | (simp; omega)) | with_reducible refine below_drewN ?_ _ | with_reducible refine Below.drew ?_)))) q1).mono ?_
      rintro e w6 ⟨v50, rfl, ho51, h6⟩
      obtain ⟨a52, c53, rfl⟩ := ho51.form
      have f54 : OwnInts (w5.heap.size + 1) w6.heap.size w6 (.slice a52 (x1).length c53) (x1) := ho51.wide (by simp) (Nat.le_refl _)
      clear ho51
      have st55 : Below w5.heap.size w5 w6 := Below.trans (by (repeat (first | with_reducible exact Below.refl _ _ | with_reducible exact hbw | (with_reducible refine Below.setCell ?_ ?_ _; rotate_left; · first | exact Nat.le_refl _ | omega | (simp; done) | (simp; omega)) | (with_reducible refine Below.alloc ?_ ?_ _; rotate_left; · first | exact Nat.le_refl _ | omega | (simp; done) | (simp; omega)) | with_reducible refine below_drewN ?_ _ | with_reducible refine Below.drew ?_))) (h6.mono (by first | exact Nat.le_refl _ | omega | (simp; done) | (simp; omega)))
      have sz6 : w5.heap.size + 1 ≤ w6.heap.size := by have := h6.size; simp at this ⊢; omega
      have bw6 : Below w.heap.size w w6 := bw5.trans (st55.mono bw5.size)
      have f56 := f41.mono st55
      have f57 := f42.mono st55
      have f58 := f43.mono st55
      have f59 := f39.mono st55
      have x60 : w6.cell? ⟨w.heap.size, 0, none⟩ = some (.string (x0).name) := cellB st55 x44
      have x61 : w6.cell? ⟨w.heap.size, 1, none⟩ = some (l0) := cellB st55 x45
      have l62 : w.heap.size < w6.heap.size := by omega
      have x63 : w6.cell? ⟨w4.heap.size, 0, none⟩ = some (.string (atV (x0) (x1) (n2)).name) := cellB st55 x47
      have x64 : w6.cell? ⟨w4.heap.size, 1, none⟩ = some (.slice a26 (atV (x0) (x1) (n2)).tones.length c27) := cellB st55 x48
      have l65 : w4.heap.size < w6.heap.size := by omega
      have x66 : w6.cell? ⟨w5.heap.size, 0, none⟩ = some (.string (x0).name) := cellB h6 (by simp [go_sem])
      have x67 : w6.cell? ⟨w5.heap.size, 1, none⟩ = some (.slice a37 (x0).tones.length c38) := cellB h6 (by simp [go_sem])
      have l68 : w5.heap.size < w6.heap.size := by omega
      clear f41 f42 f43 f39 x44 x45 l46 x47 x48 l49 h6
      go_wp2_with fail
      refine (implArrangeTune_any _ (x0) _ (x1) (n2) _ (OwnTun.rd f59) o0 q0 (OwnInts.rd f54) o1 q1 o2).mono ?_
      rintro e w7 ⟨v69, rfl, ho70, h7⟩
      obtain ⟨a71, c72, rfl⟩ := ho70.form
      have f73 : OwnTun w6.heap.size w7.heap.size w7 (.agg #[.string (atV (x0) (x1) (n2)).name, .slice a71 (atV (x0) (x1) (n2)).tones.length c72]) (atV (x0) (x1) (n2)) := ho70
      clear ho70
      have sz7 : w6.heap.size ≤ w7.heap.size := h7.size
      have bw7 : Below w.heap.size w w7 := bw6.trans (h7.mono bw6.size)
      have f75 := f56.mono h7
      have f76 := f57.mono h7
      have f77 := f58.mono h7
      have f78 := f59.mono h7
      have f79 := f54.mono h7
      have x80 : w7.cell? ⟨w.heap.size, 0, none⟩ = some (.string (x0).name) := cellB h7 x60
      have x81 : w7.cell? ⟨w.heap.size, 1, none⟩ = some (l0) := cellB h7 x61
      have l82 : w.heap.size < w7.heap.size := by omega
      have x83 : w7.cell? ⟨w4.heap.size, 0, none⟩ = some (.string (atV (x0) (x1) (n2)).name) := cellB h7 x63
      have x84 : w7.cell? ⟨w4.heap.size, 1, none⟩ = some (.slice a26 (atV (x0) (x1) (n2)).tones.length c27) := cellB h7 x64
      have l85 : w4.heap.size < w7.heap.size := by omega
      have x86 : w7.cell? ⟨w5.heap.size, 0, none⟩ = some (.string (x0).name) := cellB h7 x66
      have x87 : w7.cell? ⟨w5.heap.size, 1, none⟩ = some (.slice a37 (x0).tones.length c38) := cellB h7 x67
      have l88 : w5.heap.size < w7.heap.size := by omega
      clear f56 f57 f58 f59 f54 x60 x61 l62 x63 x64 l65 x66 x67 l68
      go_wp2_with fail
      refine (eqTunK _ _ (atV (x0) (x1) (n2)) _ ((OwnTun.rd f73).mono (by (repeat (first | with_reducible exact Below.refl _ _ | with_reducible exact hbw | (with_reducible refine Below.setCell ?_ ?_ _; rotate_left; · first | exact Nat.le_refl _ | omega | (simp; done) | (simp; omega)) | (with_reducible refine Below.alloc ?_ ?_ _; rotate_left; · first | exact Nat.le_refl _ | omega | (simp; done) | (simp; omega)) | with_reducible refine below_drewN ?_ _ | with_reducible refine Below.drew ?_)))) ((OwnTun.rd f77).mono (by (repeat (first | with_reducible exact Below.refl _ _ | with_reducible exact hbw | (with_reducible refine Below.setCell ?_ ?_ _; rotate_left; · first | exact Nat.le_refl _ | omega | (simp; done) | (simp; omega)) | (with_reducible refine Below.alloc ?_ ?_ _; rotate_left; · first | exact Nat.le_refl _ | omega | (simp; done) | (simp; omega)) | with_reducible refine below_drewN ?_ _ | with_reducible refine Below.drew ?_))))).mono ?_
      rintro e w8 ⟨rfl, h8⟩
      have st89 : Below w7.heap.size w7 w8 := Below.trans (by (repeat (first | with_reducible exact Below.refl _ _ | with_reducible exact hbw | (with_reducible refine Below.setCell ?_ ?_ _; rotate_left; · first | exact Nat.le_refl _ | omega | (simp; done) | (simp; omega)) | (with_reducible refine Below.alloc ?_ ?_ _; rotate_left; · first | exact Nat.le_refl _ | omega | (simp; done) | (simp; omega)) | with_reducible refine below_drewN ?_ _ | with_reducible refine Below.drew ?_))) (h8.mono (by first | exact Nat.le_refl _ | omega | (simp; done) | (simp; omega)))
      have sz8 : w7.heap.size + 1 ≤ w8.heap.size := by have := h8.size; simp at this ⊢; omega
      have bw8 : Below w.heap.size w w8 := bw7.trans (st89.mono bw7.size)
      have f90 := f75.mono st89
      have f91 := f76.mono st89
      have f92 := f77.mono st89
      have f93 := f78.mono st89
      have f94 := f79.mono st89
      have f95 := f73.mono st89
      have x96 : w8.cell? ⟨w.heap.size, 0, none⟩ = some (.string (x0).name) := cellB st89 x80
      have x97 : w8.cell? ⟨w.heap.size, 1, none⟩ = some (l0) := cellB st89 x81
      have l98 : w.heap.size < w8.heap.size := by omega
      have x99 : w8.cell? ⟨w4.heap.size, 0, none⟩ = some (.string (atV (x0) (x1) (n2)).name) := cellB st89 x83
      have x100 : w8.cell? ⟨w4.heap.size, 1, none⟩ = some (.slice a26 (atV (x0) (x1) (n2)).tones.length c27) := cellB st89 x84
      have l101 : w4.heap.size < w8.heap.size := by omega
      have x102 : w8.cell? ⟨w5.heap.size, 0, none⟩ = some (.string (x0).name) := cellB st89 x86
      have x103 : w8.cell? ⟨w5.heap.size, 1, none⟩ = some (.slice a37 (x0).tones.length c38) := cellB st89 x87
      have l104 : w5.heap.size < w8.heap.size := by omega
      have x105 : w8.cell? ⟨w7.heap.size, 0, none⟩ = some (.string (atV (x0) (x1) (n2)).name) := cellB h8 (by simp [go_sem])
      have x106 : w8.cell? ⟨w7.heap.size, 1, none⟩ = some (.slice a71 (atV (x0) (x1) (n2)).tones.length c72) := cellB h8 (by simp [go_sem])
      have l107 : w7.heap.size < w8.heap.size := by omega
      clear f75 f76 f77 f78 f79 f73 x80 x81 l82 x83 x84 l85 x86 x87 l88 h8
      go_wp2_with fail
      refine wp_region_ord [(0, true), (1, true), (2, false), (3, false), (4, true)] (none) (by kernel_rfl) (by kernel_rfl) ?_
      (repeat (with_reducible refine wpOrd_soft (fun K hK => ?_); simp only [List.getElem?_toArray, List.getElem?_cons_zero, List.getElem?_cons_succ]; first | (go_simp; refine hK _ ?_) | (simp only [undef]; go_simp; refine hK _ ?_); clear hK K))
      (with_reducible refine wpOrd_hard ?_; simp only [List.getElem?_toArray, List.getElem?_cons_zero, List.getElem?_cons_succ])
      go_wp2_with fail
      refine (toTunK _ (x0) _ (r0.mono (by have hbw := bw8; (repeat (first | with_reducible exact Below.refl _ _ | with_reducible exact hbw | (with_reducible refine Below.setCell ?_ ?_ _; rotate_left; · first | exact Nat.le_refl _ | omega | (simp; done) | (simp; omega)) | (with_reducible refine Below.alloc ?_ ?_ _; rotate_left; · first | exact Nat.le_refl _ | omega | (simp; done) | (simp; omega)) | with_reducible refine below_drewN ?_ _ | with_reducible refine Below.drew ?_)))) q0).mono ?_
      rintro e w9 ⟨v108, rfl, ho109, h9⟩
      obtain ⟨a110, c111, rfl⟩ := ho109.form
      have f112 : OwnTun w8.heap.size w9.heap.size w9 (.agg #[.string (x0).name, .slice a110 (x0).tones.length c111]) (x0) := ho109
      clear ho109
      have st113 : Below w8.heap.size w8 w9 := undrew h9
      have sz9 : w8.heap.size ≤ w9.heap.size := st113.size
      have bw9 : Below w.heap.size w w9 := bw8.trans (st113.mono bw8.size)
      have f114 := f90.mono st113
      have f115 := f91.mono st113
      have f116 := f92.mono st113
      have f117 := f93.mono st113
      have f118 := f94.mono st113
      have f119 := f95.mono st113
      have x120 : w9.cell? ⟨w.heap.size, 0, none⟩ = some (.string (x0).name) := cellB st113 x96
      have x121 : w9.cell? ⟨w.heap.size, 1, none⟩ = some (l0) := cellB st113 x97
      have l122 : w.heap.size < w9.heap.size := by omega
      have x123 : w9.cell? ⟨w4.heap.size, 0, none⟩ = some (.string (atV (x0) (x1) (n2)).name) := cellB st113 x99
      have x124 : w9.cell? ⟨w4.heap.size, 1, none⟩ = some (.slice a26 (atV (x0) (x1) (n2)).tones.length c27) := cellB st113 x100
      have l125 : w4.heap.size < w9.heap.size := by omega
      have x126 : w9.cell? ⟨w5.heap.size, 0, none⟩ = some (.string (x0).name) := cellB st113 x102
      have x127 : w9.cell? ⟨w5.heap.size, 1, none⟩ = some (.slice a37 (x0).tones.length c38) := cellB st113 x103
      have l128 : w5.heap.size < w9.heap.size := by omega
      have x129 : w9.cell? ⟨w7.heap.size, 0, none⟩ = some (.string (atV (x0) (x1) (n2)).name) := cellB st113 x105
      have x130 : w9.cell? ⟨w7.heap.size, 1, none⟩ = some (.slice a71 (atV (x0) (x1) (n2)).tones.length c72) := cellB st113 x106
      have l131 : w7.heap.size < w9.heap.size := by omega
      clear f90 f91 f92 f93 f94 f95 x96 x97 l98 x99 x100 l101 x102 x103 l104 x105 x106 l107 h9
      go_wp2_with fail
      refine ⟨grown_of_below st113, ?_⟩
      (repeat (with_reducible refine wpOrd_soft (fun K hK => ?_); simp only [List.getElem?_toArray, List.getElem?_cons_zero, List.getElem?_cons_succ]; first | (go_simp; refine hK _ ?_) | (simp only [undef]; go_simp; refine hK _ ?_); clear hK K))
      (with_reducible refine wpOrd_hard ?_; simp only [List.getElem?_toArray, List.getElem?_cons_zero, List.getElem?_cons_succ])
      go_wp2_with fail
      refine (eqTunK _ _ (x0) _ (OwnTun.rd f117) (OwnTun.rd f112)).mono ?_
      rintro e w10 ⟨rfl, h10⟩
      have sz10 : w9.heap.size ≤ w10.heap.size := h10.size
      have bw10 : Below w.heap.size w w10 := bw9.trans (h10.mono bw9.size)
      have f133 := f114.mono h10
      have f134 := f115.mono h10
      have f135 := f116.mono h10
      have f136 := f117.mono h10
      have f137 := f118.mono h10
      have f138 := f119.mono h10
      have f139 := f112.mono h10
      have x140 : w10.cell? ⟨w.heap.size, 0, none⟩ = some (.string (x0).name) := cellB h10 x120
      have x141 : w10.cell? ⟨w.heap.size, 1, none⟩ = some (l0) := cellB h10 x121
      have l142 : w.heap.size < w10.heap.size := by omega
      have x143 : w10.cell? ⟨w4.heap.size, 0, none⟩ = some (.string (atV (x0) (x1) (n2)).name) := cellB h10 x123
      have x144 : w10.cell? ⟨w4.heap.size, 1, none⟩ = some (.slice a26 (atV (x0) (x1) (n2)).tones.length c27) := cellB h10 x124
      have l145 : w4.heap.size < w10.heap.size := by omega
      have x146 : w10.cell? ⟨w5.heap.size, 0, none⟩ = some (.string (x0).name) := cellB h10 x126
      have x147 : w10.cell? ⟨w5.heap.size, 1, none⟩ = some (.slice a37 (x0).tones.length c38) := cellB h10 x127
      have l148 : w5.heap.size < w10.heap.size := by omega
      have x149 : w10.cell? ⟨w7.heap.size, 0, none⟩ = some (.string (atV (x0) (x1) (n2)).name) := cellB h10 x129
      have x150 : w10.cell? ⟨w7.heap.size, 1, none⟩ = some (.slice a71 (atV (x0) (x1) (n2)).tones.length c72) := cellB h10 x130
      have l151 : w7.heap.size < w10.heap.size := by omega
      clear f114 f115 f116 f117 f118 f119 f112 x120 x121 l122 x123 x124 l125 x126 x127 l128 x129 x130 l131
      have rg152 : Below w8.heap.size w8 w10 := st113.trans (h10.mono st113.size)
      go_wp2_with fail
      refine ⟨grown_of_below rg152, ?_⟩
      (repeat (with_reducible refine wpOrd_soft (fun K hK => ?_); simp only [List.getElem?_toArray, List.getElem?_cons_zero, List.getElem?_cons_succ]; first | (go_simp; refine hK _ ?_) | (simp only [undef]; go_simp; refine hK _ ?_); clear hK K))
      (with_reducible refine wpOrd_nil ?_); refine NoPanic.normal ?_
      go_wp2_with fail
      refine (toIntsK _ (x1) _ (r1.mono (by have hbw := bw10; (repeat (first | with_reducible exact Below.refl _ _ | with_reducible exact hbw | (with_reducible refine Below.setCell ?_ ?_ _; rotate_left; · first | exact Nat.le_refl _ | omega | (simp; done) | (simp; omega)) | (with_reducible refine Below.alloc ?_ ?_ _; rotate_left; · first | exact Nat.le_refl _ | omega | (simp; done) | (simp; omega)) | with_reducible refine below_drewN ?_ _ | with_reducible refine Below.drew ?_)))) q1).mono ?_
      rintro e w11 ⟨v153, rfl, ho154, h11⟩
      obtain ⟨a155, c156, rfl⟩ := ho154.form
      have f157 : OwnInts w10.heap.size w11.heap.size w11 (.slice a155 (x1).length c156) (x1) := ho154
      clear ho154
      have sz11 : w10.heap.size ≤ w11.heap.size := h11.size
      have bw11 : Below w.heap.size w w11 := bw10.trans (h11.mono bw10.size)
      have f159 := f133.mono h11
      have f160 := f134.mono h11
      have f161 := f135.mono h11
      have f162 := f136.mono h11
      have f163 := f137.mono h11
      have f164 := f138.mono h11
      have f165 := f139.mono h11
      have x166 : w11.cell? ⟨w.heap.size, 0, none⟩ = some (.string (x0).name) := cellB h11 x140
      have x167 : w11.cell? ⟨w.heap.size, 1, none⟩ = some (l0) := cellB h11 x141
      have l168 : w.heap.size < w11.heap.size := by omega
      have x169 : w11.cell? ⟨w4.heap.size, 0, none⟩ = some (.string (atV (x0) (x1) (n2)).name) := cellB h11 x143
      have x170 : w11.cell? ⟨w4.heap.size, 1, none⟩ = some (.slice a26 (atV (x0) (x1) (n2)).tones.length c27) := cellB h11 x144
      have l171 : w4.heap.size < w11.heap.size := by omega
      have x172 : w11.cell? ⟨w5.heap.size, 0, none⟩ = some (.string (x0).name) := cellB h11 x146
      have x173 : w11.cell? ⟨w5.heap.size, 1, none⟩ = some (.slice a37 (x0).tones.length c38) := cellB h11 x147
      have l174 : w5.heap.size < w11.heap.size := by omega
      have x175 : w11.cell? ⟨w7.heap.size, 0, none⟩ = some (.string (atV (x0) (x1) (n2)).name) := cellB h11 x149
      have x176 : w11.cell? ⟨w7.heap.size, 1, none⟩ = some (.slice a71 (atV (x0) (x1) (n2)).tones.length c72) := cellB h11 x150
      have l177 : w7.heap.size < w11.heap.size := by omega
      clear f133 f134 f135 f136 f137 f138 f139 x140 x141 l142 x143 x144 l145 x146 x147 l148 x149 x150 l151
      go_wp2_with fail
      refine (eqIntsK _ _ (x1) _ (OwnInts.rd f163) (OwnInts.rd f157)).mono ?_
      rintro e w12 ⟨rfl, h12⟩
      have sz12 : w11.heap.size ≤ w12.heap.size := h12.size
      have bw12 : Below w.heap.size w w12 := bw11.trans (h12.mono bw11.size)
      have f179 := f159.mono h12
      have f180 := f160.mono h12
      have f181 := f161.mono h12
      have f182 := f162.mono h12
      have f183 := f163.mono h12
      have f184 := f164.mono h12
      have f185 := f165.mono h12
      have f186 := f157.mono h12
      have x187 : w12.cell? ⟨w.heap.size, 0, none⟩ = some (.string (x0).name) := cellB h12 x166
      have x188 : w12.cell? ⟨w.heap.size, 1, none⟩ = some (l0) := cellB h12 x167
      have l189 : w.heap.size < w12.heap.size := by omega
      have x190 : w12.cell? ⟨w4.heap.size, 0, none⟩ = some (.string (atV (x0) (x1) (n2)).name) := cellB h12 x169
      have x191 : w12.cell? ⟨w4.heap.size, 1, none⟩ = some (.slice a26 (atV (x0) (x1) (n2)).tones.length c27) := cellB h12 x170
      have l192 : w4.heap.size < w12.heap.size := by omega
      have x193 : w12.cell? ⟨w5.heap.size, 0, none⟩ = some (.string (x0).name) := cellB h12 x172
      have x194 : w12.cell? ⟨w5.heap.size, 1, none⟩ = some (.slice a37 (x0).tones.length c38) := cellB h12 x173
      have l195 : w5.heap.size < w12.heap.size := by omega
      have x196 : w12.cell? ⟨w7.heap.size, 0, none⟩ = some (.string (atV (x0) (x1) (n2)).name) := cellB h12 x175
      have x197 : w12.cell? ⟨w7.heap.size, 1, none⟩ = some (.slice a71 (atV (x0) (x1) (n2)).tones.length c72) := cellB h12 x176
      have l198 : w7.heap.size < w12.heap.size := by omega
      clear f159 f160 f161 f162 f163 f164 f165 f157 x166 x167 l168 x169 x170 l171 x172 x173 l174 x175 x176 l177
      go_wp2_with fail
      refine (markTunK _ _ _ (x0) (1) _ f182 (by omega) (by have := q0; omega)).mono ?_
      rintro e w13 ⟨rfl, f199, t13⟩
      have sz13 : w12.heap.size ≤ w13.heap.size := t13.size
      have bw13 : Below w.heap.size w w13 := t13.below bw12 (by omega) (by omega)
      have f201 := f179.touch t13 (by omega)
      have f202 := f180.touch t13 (by omega)
      have f203 := f181.touch t13 (by omega)
      have f205 := f183.touch t13 (by omega)
      have f206 := f184.touch t13 (by omega)
      have f207 := f185.touch t13 (by omega)
      have f208 := f186.touch t13 (by omega)
      have x209 : w13.cell? ⟨w.heap.size, 0, none⟩ = some (.string (x0).name) := cellT t13 x187 (by simp only; omega)
      have x210 : w13.cell? ⟨w.heap.size, 1, none⟩ = some (l0) := cellT t13 x188 (by simp only; omega)
      have l211 : w.heap.size < w13.heap.size := by omega
      have x212 : w13.cell? ⟨w4.heap.size, 0, none⟩ = some (.string (atV (x0) (x1) (n2)).name) := cellT t13 x190 (by simp only; omega)
      have x213 : w13.cell? ⟨w4.heap.size, 1, none⟩ = some (.slice a26 (atV (x0) (x1) (n2)).tones.length c27) := cellT t13 x191 (by simp only; omega)
      have l214 : w4.heap.size < w13.heap.size := by omega
      have x215 : w13.cell? ⟨w5.heap.size, 0, none⟩ = some (.string (x0).name) := cellT t13 x193 (by simp only; omega)
      have x216 : w13.cell? ⟨w5.heap.size, 1, none⟩ = some (.slice a37 (x0).tones.length c38) := cellT t13 x194 (by simp only; omega)
      have l217 : w5.heap.size < w13.heap.size := by omega
      have x218 : w13.cell? ⟨w7.heap.size, 0, none⟩ = some (.string (atV (x0) (x1) (n2)).name) := cellT t13 x196 (by simp only; omega)
      have x219 : w13.cell? ⟨w7.heap.size, 1, none⟩ = some (.slice a71 (atV (x0) (x1) (n2)).tones.length c72) := cellT t13 x197 (by simp only; omega)
      have l220 : w7.heap.size < w13.heap.size := by omega
      clear f179 f180 f181 f183 f184 f185 f186 x187 x188 l189 x190 x191 l192 x193 x194 l195 x196 x197 l198
      clear f182
      go_wp2_with fail
      refine (markIntsK _ _ _ (x1) (1 + (((x0).tones.length : Int) * 3 : Int)) _ f205 (by omega) (by have := q1; omega)).mono ?_
      rintro e w14 ⟨rfl, f221, t14⟩
      have sz14 : w13.heap.size ≤ w14.heap.size := t14.size
      have bw14 : Below w.heap.size w w14 := t14.below bw13 (by omega) (by omega)
      have f223 := f201.touch t14 (by omega)
      have f224 := f202.touch t14 (by omega)
      have f225 := f203.touch t14 (by omega)
      have f226 := f199.touch t14 (by omega)
      have f228 := f206.touch t14 (by omega)
      have f229 := f207.touch t14 (by omega)
      have f230 := f208.touch t14 (by omega)
      have x231 : w14.cell? ⟨w.heap.size, 0, none⟩ = some (.string (x0).name) := cellT t14 x209 (by simp only; omega)
      have x232 : w14.cell? ⟨w.heap.size, 1, none⟩ = some (l0) := cellT t14 x210 (by simp only; omega)
      have l233 : w.heap.size < w14.heap.size := by omega
      have x234 : w14.cell? ⟨w4.heap.size, 0, none⟩ = some (.string (atV (x0) (x1) (n2)).name) := cellT t14 x212 (by simp only; omega)
      have x235 : w14.cell? ⟨w4.heap.size, 1, none⟩ = some (.slice a26 (atV (x0) (x1) (n2)).tones.length c27) := cellT t14 x213 (by simp only; omega)
      have l236 : w4.heap.size < w14.heap.size := by omega
      have x237 : w14.cell? ⟨w5.heap.size, 0, none⟩ = some (.string (x0).name) := cellT t14 x215 (by simp only; omega)
      have x238 : w14.cell? ⟨w5.heap.size, 1, none⟩ = some (.slice a37 (x0).tones.length c38) := cellT t14 x216 (by simp only; omega)
      have l239 : w5.heap.size < w14.heap.size := by omega
      have x240 : w14.cell? ⟨w7.heap.size, 0, none⟩ = some (.string (atV (x0) (x1) (n2)).name) := cellT t14 x218 (by simp only; omega)
      have x241 : w14.cell? ⟨w7.heap.size, 1, none⟩ = some (.slice a71 (atV (x0) (x1) (n2)).tones.length c72) := cellT t14 x219 (by simp only; omega)
      have l242 : w7.heap.size < w14.heap.size := by omega
      clear f201 f202 f203 f199 f206 f207 f208 x209 x210 l211 x212 x213 l214 x215 x216 l217 x218 x219 l220
      clear f205
      go_wp2_with fail
      refine (eqTunK _ _ (atV (x0) (x1) (n2)) _ (OwnTun.rd f228) (OwnTun.rd f225)).mono ?_
      rintro e w15 ⟨rfl, h15⟩
      have sz15 : w14.heap.size ≤ w15.heap.size := h15.size
      have bw15 : Below w.heap.size w w15 := bw14.trans (h15.mono bw14.size)
      have f244 := f223.mono h15
      have f245 := f224.mono h15
      have f246 := f225.mono h15
      have f247 := f226.mono h15
      have f248 := f221.mono h15
      have f249 := f228.mono h15
      have f250 := f229.mono h15
      have f251 := f230.mono h15
      have x252 : w15.cell? ⟨w.heap.size, 0, none⟩ = some (.string (x0).name) := cellB h15 x231
      have x253 : w15.cell? ⟨w.heap.size, 1, none⟩ = some (l0) := cellB h15 x232
      have l254 : w.heap.size < w15.heap.size := by omega
      have x255 : w15.cell? ⟨w4.heap.size, 0, none⟩ = some (.string (atV (x0) (x1) (n2)).name) := cellB h15 x234
      have x256 : w15.cell? ⟨w4.heap.size, 1, none⟩ = some (.slice a26 (atV (x0) (x1) (n2)).tones.length c27) := cellB h15 x235
      have l257 : w4.heap.size < w15.heap.size := by omega
      have x258 : w15.cell? ⟨w5.heap.size, 0, none⟩ = some (.string (x0).name) := cellB h15 x237
      have x259 : w15.cell? ⟨w5.heap.size, 1, none⟩ = some (.slice a37 (x0).tones.length c38) := cellB h15 x238
      have l260 : w5.heap.size < w15.heap.size := by omega
      have x261 : w15.cell? ⟨w7.heap.size, 0, none⟩ = some (.string (atV (x0) (x1) (n2)).name) := cellB h15 x240
      have x262 : w15.cell? ⟨w7.heap.size, 1, none⟩ = some (.slice a71 (atV (x0) (x1) (n2)).tones.length c72) := cellB h15 x241
      have l263 : w7.heap.size < w15.heap.size := by omega
      clear f223 f224 f225 f226 f221 f228 f229 f230 x231 x232 l233 x234 x235 l236 x237 x238 l239 x240 x241 l242
      go_wp2_with fail
      refine (markTunK _ _ _ (atV (x0) (x1) (n2)) (1) _ f249 (by omega) (by have := hbd; omega)).mono ?_
      rintro e w16 ⟨rfl, f264, t16⟩
      have sz16 : w15.heap.size ≤ w16.heap.size := t16.size
      have bw16 : Below w.heap.size w w16 := t16.below bw15 (by omega) (by omega)
      have f266 := f244.touch t16 (by omega)
      have f267 := f245.touch t16 (by omega)
      have f268 := f246.touch t16 (by omega)
      have f269 := f247.touch t16 (by omega)
      have f270 := f248.touch t16 (by omega)
      have f272 := f250.touch t16 (by omega)
      have f273 := f251.touch t16 (by omega)
      have x274 : w16.cell? ⟨w.heap.size, 0, none⟩ = some (.string (x0).name) := cellT t16 x252 (by simp only; omega)
      have x275 : w16.cell? ⟨w.heap.size, 1, none⟩ = some (l0) := cellT t16 x253 (by simp only; omega)
      have l276 : w.heap.size < w16.heap.size := by omega
      have x277 : w16.cell? ⟨w4.heap.size, 0, none⟩ = some (.string (atV (x0) (x1) (n2)).name) := cellT t16 x255 (by simp only; omega)
      have x278 : w16.cell? ⟨w4.heap.size, 1, none⟩ = some (.slice a26 (atV (x0) (x1) (n2)).tones.length c27) := cellT t16 x256 (by simp only; omega)
      have l279 : w4.heap.size < w16.heap.size := by omega
      have x280 : w16.cell? ⟨w5.heap.size, 0, none⟩ = some (.string (x0).name) := cellT t16 x258 (by simp only; omega)
      have x281 : w16.cell? ⟨w5.heap.size, 1, none⟩ = some (.slice a37 (x0).tones.length c38) := cellT t16 x259 (by simp only; omega)
      have l282 : w5.heap.size < w16.heap.size := by omega
      have x283 : w16.cell? ⟨w7.heap.size, 0, none⟩ = some (.string (atV (x0) (x1) (n2)).name) := cellT t16 x261 (by simp only; omega)
      have x284 : w16.cell? ⟨w7.heap.size, 1, none⟩ = some (.slice a71 (atV (x0) (x1) (n2)).tones.length c72) := cellT t16 x262 (by simp only; omega)
      have l285 : w7.heap.size < w16.heap.size := by omega
      clear f244 f245 f246 f247 f248 f250 f251 x252 x253 l254 x255 x256 l257 x258 x259 l260 x261 x262 l263
      clear f249
      go_wp2_with fail
      refine (heldTunK _ _ _ (atV (x0) (x1) (n2)) (1) _ f264 (by omega) (by have := hbd; omega)).mono ?_
      rintro e w17 ⟨rfl, h17⟩
      have sz17 : w16.heap.size ≤ w17.heap.size := h17.size
      have bw17 : Below w.heap.size w w17 := bw16.trans (h17.mono bw16.size)
      have f287 := f266.mono h17
      have f288 := f267.mono h17
      have f289 := f268.mono h17
      have f290 := f269.mono h17
      have f291 := f270.mono h17
      have f292 := f264.mono h17
      have f293 := f272.mono h17
      have f294 := f273.mono h17
      have x295 : w17.cell? ⟨w.heap.size, 0, none⟩ = some (.string (x0).name) := cellB h17 x274
      have x296 : w17.cell? ⟨w.heap.size, 1, none⟩ = some (l0) := cellB h17 x275
      have l297 : w.heap.size < w17.heap.size := by omega
      have x298 : w17.cell? ⟨w4.heap.size, 0, none⟩ = some (.string (atV (x0) (x1) (n2)).name) := cellB h17 x277
      have x299 : w17.cell? ⟨w4.heap.size, 1, none⟩ = some (.slice a26 (atV (x0) (x1) (n2)).tones.length c27) := cellB h17 x278
      have l300 : w4.heap.size < w17.heap.size := by omega
      have x301 : w17.cell? ⟨w5.heap.size, 0, none⟩ = some (.string (x0).name) := cellB h17 x280
      have x302 : w17.cell? ⟨w5.heap.size, 1, none⟩ = some (.slice a37 (x0).tones.length c38) := cellB h17 x281
      have l303 : w5.heap.size < w17.heap.size := by omega
      have x304 : w17.cell? ⟨w7.heap.size, 0, none⟩ = some (.string (atV (x0) (x1) (n2)).name) := cellB h17 x283
      have x305 : w17.cell? ⟨w7.heap.size, 1, none⟩ = some (.slice a71 (atV (x0) (x1) (n2)).tones.length c72) := cellB h17 x284
      have l306 : w7.heap.size < w17.heap.size := by omega
      clear f266 f267 f268 f269 f270 f264 f272 f273 x274 x275 l276 x277 x278 l279 x280 x281 l282 x283 x284 l285
      go_wp2_with fail
      refine (toTunK _ (x0) _ (r0.mono (by have hbw := bw17; (repeat (first | with_reducible exact Below.refl _ _ | with_reducible exact hbw | (with_reducible refine Below.setCell ?_ ?_ _; rotate_left; · first | exact Nat.le_refl _ | omega | (simp; done) | (simp; omega)) | (with_reducible refine Below.alloc ?_ ?_ _; rotate_left; · first | exact Nat.le_refl _ | omega | (simp; done) | (simp; omega)) | with_reducible refine below_drewN ?_ _ | with_reducible refine Below.drew ?_)))) q0).mono ?_
      rintro e w18 ⟨v307, rfl, ho308, h18⟩
      obtain ⟨a309, c310, rfl⟩ := ho308.form
      have f311 : OwnTun w17.heap.size w18.heap.size w18 (.agg #[.string (x0).name, .slice a309 (x0).tones.length c310]) (x0) := ho308
      clear ho308
      have sz18 : w17.heap.size ≤ w18.heap.size := h18.size
      have bw18 : Below w.heap.size w w18 := bw17.trans (h18.mono bw17.size)
      have f313 := f287.mono h18
      have f314 := f288.mono h18
      have f315 := f289.mono h18
      have f316 := f290.mono h18
      have f317 := f291.mono h18
      have f318 := f292.mono h18
      have f319 := f293.mono h18
      have f320 := f294.mono h18
      have x321 : w18.cell? ⟨w.heap.size, 0, none⟩ = some (.string (x0).name) := cellB h18 x295
      have x322 : w18.cell? ⟨w.heap.size, 1, none⟩ = some (l0) := cellB h18 x296
      have l323 : w.heap.size < w18.heap.size := by omega
      have x324 : w18.cell? ⟨w4.heap.size, 0, none⟩ = some (.string (atV (x0) (x1) (n2)).name) := cellB h18 x298
      have x325 : w18.cell? ⟨w4.heap.size, 1, none⟩ = some (.slice a26 (atV (x0) (x1) (n2)).tones.length c27) := cellB h18 x299
      have l326 : w4.heap.size < w18.heap.size := by omega
      have x327 : w18.cell? ⟨w5.heap.size, 0, none⟩ = some (.string (x0).name) := cellB h18 x301
      have x328 : w18.cell? ⟨w5.heap.size, 1, none⟩ = some (.slice a37 (x0).tones.length c38) := cellB h18 x302
      have l329 : w5.heap.size < w18.heap.size := by omega
      have x330 : w18.cell? ⟨w7.heap.size, 0, none⟩ = some (.string (atV (x0) (x1) (n2)).name) := cellB h18 x304
      have x331 : w18.cell? ⟨w7.heap.size, 1, none⟩ = some (.slice a71 (atV (x0) (x1) (n2)).tones.length c72) := cellB h18 x305
      have l332 : w7.heap.size < w18.heap.size := by omega
      clear f287 f288 f289 f290 f291 f292 f293 f294 x295 x296 l297 x298 x299 l300 x301 x302 l303 x304 x305 l306
      go_wp2_with fail
      refine (toIntsK _ (x1) _ (r1.mono (by have hbw := bw18; (repeat (first | with_reducible exact Below.refl _ _ | with_reducible exact hbw | (with_reducible refine Below.setCell ?_ ?_ _; rotate_left; · first | exact Nat.le_refl _ | omega | (simp; done) | (simp; omega)) | (with_reducible refine Below.alloc ?_ ?_ _; rotate_left; · first | exact Nat.le_refl _ | omega | (simp; done) | (simp; omega)) | with_reducible refine below_drewN ?_ _ | with_reducible refine Below.drew ?_)))) q1).mono ?_
      rintro e w19 ⟨v333, rfl, ho334, h19⟩
      obtain ⟨a335, c336, rfl⟩ := ho334.form
      have f337 : OwnInts w18.heap.size w19.heap.size w19 (.slice a335 (x1).length c336) (x1) := ho334
      clear ho334
      have sz19 : w18.heap.size ≤ w19.heap.size := h19.size
      have bw19 : Below w.heap.size w w19 := bw18.trans (h19.mono bw18.size)
      have f339 := f313.mono h19
      have f340 := f314.mono h19
      have f341 := f315.mono h19
      have f342 := f316.mono h19
      have f343 := f317.mono h19
      have f344 := f318.mono h19
      have f345 := f319.mono h19
      have f346 := f320.mono h19
      have f347 := f311.mono h19
      have x348 : w19.cell? ⟨w.heap.size, 0, none⟩ = some (.string (x0).name) := cellB h19 x321
      have x349 : w19.cell? ⟨w.heap.size, 1, none⟩ = some (l0) := cellB h19 x322
      have l350 : w.heap.size < w19.heap.size := by omega
      have x351 : w19.cell? ⟨w4.heap.size, 0, none⟩ = some (.string (atV (x0) (x1) (n2)).name) := cellB h19 x324
      have x352 : w19.cell? ⟨w4.heap.size, 1, none⟩ = some (.slice a26 (atV (x0) (x1) (n2)).tones.length c27) := cellB h19 x325
      have l353 : w4.heap.size < w19.heap.size := by omega
      have x354 : w19.cell? ⟨w5.heap.size, 0, none⟩ = some (.string (x0).name) := cellB h19 x327
      have x355 : w19.cell? ⟨w5.heap.size, 1, none⟩ = some (.slice a37 (x0).tones.length c38) := cellB h19 x328
      have l356 : w5.heap.size < w19.heap.size := by omega
      have x357 : w19.cell? ⟨w7.heap.size, 0, none⟩ = some (.string (atV (x0) (x1) (n2)).name) := cellB h19 x330
      have x358 : w19.cell? ⟨w7.heap.size, 1, none⟩ = some (.slice a71 (atV (x0) (x1) (n2)).tones.length c72) := cellB h19 x331
      have l359 : w7.heap.size < w19.heap.size := by omega
      clear f313 f314 f315 f316 f317 f318 f319 f320 f311 x321 x322 l323 x324 x325 l326 x327 x328 l329 x330 x331 l332
      go_wp2_with fail
      refine (implArrangeTune_any _ (x0) _ (x1) (n2) _ (OwnTun.rd f347) o0 q0 (OwnInts.rd f337) o1 q1 o2).mono ?_
      rintro e w20 ⟨v360, rfl, ho361, h20⟩
      obtain ⟨a362, c363, rfl⟩ := ho361.form
      have f364 : OwnTun w19.heap.size w20.heap.size w20 (.agg #[.string (atV (x0) (x1) (n2)).name, .slice a362 (atV (x0) (x1) (n2)).tones.length c363]) (atV (x0) (x1) (n2)) := ho361
      clear ho361
      have sz20 : w19.heap.size ≤ w20.heap.size := h20.size
      have bw20 : Below w.heap.size w w20 := bw19.trans (h20.mono bw19.size)
      have f366 := f339.mono h20
      have f367 := f340.mono h20
      have f368 := f341.mono h20
      have f369 := f342.mono h20
      have f370 := f343.mono h20
      have f371 := f344.mono h20
      have f372 := f345.mono h20
      have f373 := f346.mono h20
      have f374 := f347.mono h20
      have f375 := f337.mono h20
      have x376 : w20.cell? ⟨w.heap.size, 0, none⟩ = some (.string (x0).name) := cellB h20 x348
      have x377 : w20.cell? ⟨w.heap.size, 1, none⟩ = some (l0) := cellB h20 x349
      have l378 : w.heap.size < w20.heap.size := by omega
      have x379 : w20.cell? ⟨w4.heap.size, 0, none⟩ = some (.string (atV (x0) (x1) (n2)).name) := cellB h20 x351
      have x380 : w20.cell? ⟨w4.heap.size, 1, none⟩ = some (.slice a26 (atV (x0) (x1) (n2)).tones.length c27) := cellB h20 x352
      have l381 : w4.heap.size < w20.heap.size := by omega
      have x382 : w20.cell? ⟨w5.heap.size, 0, none⟩ = some (.string (x0).name) := cellB h20 x354
      have x383 : w20.cell? ⟨w5.heap.size, 1, none⟩ = some (.slice a37 (x0).tones.length c38) := cellB h20 x355
      have l384 : w5.heap.size < w20.heap.size := by omega
      have x385 : w20.cell? ⟨w7.heap.size, 0, none⟩ = some (.string (atV (x0) (x1) (n2)).name) := cellB h20 x357
      have x386 : w20.cell? ⟨w7.heap.size, 1, none⟩ = some (.slice a71 (atV (x0) (x1) (n2)).tones.length c72) := cellB h20 x358
      have l387 : w7.heap.size < w20.heap.size := by omega
      clear f339 f340 f341 f342 f343 f344 f345 f346 f347 f337 x348 x349 l350 x351 x352 l353 x354 x355 l356 x357 x358 l359
      go_wp2_with fail
      refine (eqTunK _ _ (atV (x0) (x1) (n2)) _ ((OwnTun.rd f364).mono (by (repeat (first | with_reducible exact Below.refl _ _ | with_reducible exact hbw | (with_reducible refine Below.setCell ?_ ?_ _; rotate_left; · first | exact Nat.le_refl _ | omega | (simp; done) | (simp; omega)) | (with_reducible refine Below.alloc ?_ ?_ _; rotate_left; · first | exact Nat.le_refl _ | omega | (simp; done) | (simp; omega)) | with_reducible refine below_drewN ?_ _ | with_reducible refine Below.drew ?_)))) ((OwnTun.rd f368).mono (by (repeat (first | with_reducible exact Below.refl _ _ | with_reducible exact hbw | (with_reducible refine Below.setCell ?_ ?_ _; rotate_left; · first | exact Nat.le_refl _ | omega | (simp; done) | (simp; omega)) | (with_reducible refine Below.alloc ?_ ?_ _; rotate_left; · first | exact Nat.le_refl _ | omega | (simp; done) | (simp; omega)) | with_reducible refine below_drewN ?_ _ | with_reducible refine Below.drew ?_))))).mono ?_
      rintro e w21 ⟨rfl, h21⟩
      have st388 : Below w20.heap.size w20 w21 := Below.trans (by (repeat (first | with_reducible exact Below.refl _ _ | with_reducible exact hbw | (with_reducible refine Below.setCell ?_ ?_ _; rotate_left; · first | exact Nat.le_refl _ | omega | (simp; done) | (simp; omega)) | (with_reducible refine Below.alloc ?_ ?_ _; rotate_left; · first | exact Nat.le_refl _ | omega | (simp; done) | (simp; omega)) | with_reducible refine below_drewN ?_ _ | with_reducible refine Below.drew ?_))) (h21.mono (by first | exact Nat.le_refl _ | omega | (simp; done) | (simp; omega)))
      have sz21 : w20.heap.size + 1 ≤ w21.heap.size := by have := h21.size; simp at this ⊢; omega
      have bw21 : Below w.heap.size w w21 := bw20.trans (st388.mono bw20.size)
      have f389 := f366.mono st388
      have f390 := f367.mono st388
      have f391 := f368.mono st388
      have f392 := f369.mono st388
      have f393 := f370.mono st388
      have f394 := f371.mono st388
      have f395 := f372.mono st388
      have f396 := f373.mono st388
      have f397 := f374.mono st388
      have f398 := f375.mono st388
      have f399 := f364.mono st388
      have x400 : w21.cell? ⟨w.heap.size, 0, none⟩ = some (.string (x0).name) := cellB st388 x376
      have x401 : w21.cell? ⟨w.heap.size, 1, none⟩ = some (l0) := cellB st388 x377
      have l402 : w.heap.size < w21.heap.size := by omega
      have x403 : w21.cell? ⟨w4.heap.size, 0, none⟩ = some (.string (atV (x0) (x1) (n2)).name) := cellB st388 x379
      have x404 : w21.cell? ⟨w4.heap.size, 1, none⟩ = some (.slice a26 (atV (x0) (x1) (n2)).tones.length c27) := cellB st388 x380
      have l405 : w4.heap.size < w21.heap.size := by omega
      have x406 : w21.cell? ⟨w5.heap.size, 0, none⟩ = some (.string (x0).name) := cellB st388 x382
      have x407 : w21.cell? ⟨w5.heap.size, 1, none⟩ = some (.slice a37 (x0).tones.length c38) := cellB st388 x383
      have l408 : w5.heap.size < w21.heap.size := by omega
      have x409 : w21.cell? ⟨w7.heap.size, 0, none⟩ = some (.string (atV (x0) (x1) (n2)).name) := cellB st388 x385
      have x410 : w21.cell? ⟨w7.heap.size, 1, none⟩ = some (.slice a71 (atV (x0) (x1) (n2)).tones.length c72) := cellB st388 x386
      have l411 : w7.heap.size < w21.heap.size := by omega
      have x412 : w21.cell? ⟨w20.heap.size, 0, none⟩ = some (.string (atV (x0) (x1) (n2)).name) := cellB h21 (by simp [go_sem])
      have x413 : w21.cell? ⟨w20.heap.size, 1, none⟩ = some (.slice a362 (atV (x0) (x1) (n2)).tones.length c363) := cellB h21 (by simp [go_sem])
      have l414 : w20.heap.size < w21.heap.size := by omega
      clear f366 f367 f368 f369 f370 f371 f372 f373 f374 f375 f364 x376 x377 l378 x379 x380 l381 x382 x383 l384 x385 x386 l387 h21
      go_wp2_with fail
      refine (heldTunK _ _ _ (atV (x0) (x1) (n2)) (1) _ f394 (by omega) (by have := hbd; omega)).mono ?_
      rintro e w22 ⟨rfl, h22⟩
      have sz22 : w21.heap.size ≤ w22.heap.size := h22.size
      have bw22 : Below w.heap.size w w22 := bw21.trans (h22.mono bw21.size)
      have f416 := f389.mono h22
      have f417 := f390.mono h22
      have f418 := f391.mono h22
      have f419 := f392.mono h22
      have f420 := f393.mono h22
      have f421 := f394.mono h22
      have f422 := f395.mono h22
      have f423 := f396.mono h22
      have f424 := f397.mono h22
      have f425 := f398.mono h22
      have f426 := f399.mono h22
      have x427 : w22.cell? ⟨w.heap.size, 0, none⟩ = some (.string (x0).name) := cellB h22 x400
      have x428 : w22.cell? ⟨w.heap.size, 1, none⟩ = some (l0) := cellB h22 x401
      have l429 : w.heap.size < w22.heap.size := by omega
      have x430 : w22.cell? ⟨w4.heap.size, 0, none⟩ = some (.string (atV (x0) (x1) (n2)).name) := cellB h22 x403
      have x431 : w22.cell? ⟨w4.heap.size, 1, none⟩ = some (.slice a26 (atV (x0) (x1) (n2)).tones.length c27) := cellB h22 x404
      have l432 : w4.heap.size < w22.heap.size := by omega
      have x433 : w22.cell? ⟨w5.heap.size, 0, none⟩ = some (.string (x0).name) := cellB h22 x406
      have x434 : w22.cell? ⟨w5.heap.size, 1, none⟩ = some (.slice a37 (x0).tones.length c38) := cellB h22 x407
      have l435 : w5.heap.size < w22.heap.size := by omega
      have x436 : w22.cell? ⟨w7.heap.size, 0, none⟩ = some (.string (atV (x0) (x1) (n2)).name) := cellB h22 x409
      have x437 : w22.cell? ⟨w7.heap.size, 1, none⟩ = some (.slice a71 (atV (x0) (x1) (n2)).tones.length c72) := cellB h22 x410
      have l438 : w7.heap.size < w22.heap.size := by omega
      have x439 : w22.cell? ⟨w20.heap.size, 0, none⟩ = some (.string (atV (x0) (x1) (n2)).name) := cellB h22 x412
      have x440 : w22.cell? ⟨w20.heap.size, 1, none⟩ = some (.slice a362 (atV (x0) (x1) (n2)).tones.length c363) := cellB h22 x413
      have l441 : w20.heap.size < w22.heap.size := by omega
      clear f389 f390 f391 f392 f393 f394 f395 f396 f397 f398 f399 x400 x401 l402 x403 x404 l405 x406 x407 l408 x409 x410 l411 x412 x413 l414
      go_wp2
      go_ret
      exact ⟨rfl, bw22⟩
    · skip
      go_enter Try.func3, Try.ntmps3
      go_wp2_with fail
      refine (szTunN _ (x0) (1048576) _ (r0.mono (by (repeat (first | with_reducible exact Below.refl _ _ | with_reducible exact hbw | (with_reducible refine Below.setCell ?_ ?_ _; rotate_left; · first | exact Nat.le_refl _ | omega | (simp; done) | (simp; omega)) | (with_reducible refine Below.alloc ?_ ?_ _; rotate_left; · first | exact Nat.le_refl _ | omega | (simp; done) | (simp; omega)) | with_reducible refine below_drewN ?_ _ | with_reducible refine Below.drew ?_)))) o0 (by omega) (by omega) (by omega)).mono ?_
      rintro e w1 ⟨rfl, h1⟩
      have bw1 : Below w.heap.size w w1 := Below.trans (by (repeat (first | with_reducible exact Below.refl _ _ | with_reducible exact hbw | (with_reducible refine Below.setCell ?_ ?_ _; rotate_left; · first | exact Nat.le_refl _ | omega | (simp; done) | (simp; omega)) | (with_reducible refine Below.alloc ?_ ?_ _; rotate_left; · first | exact Nat.le_refl _ | omega | (simp; done) | (simp; omega)) | with_reducible refine below_drewN ?_ _ | with_reducible refine Below.drew ?_))) (h1.mono (by simp <;> omega))
      go_wp2
      go_ret
      exact ⟨rfl, bw1⟩
  · skip
    go_enter Try.func3, Try.ntmps3
    go_wp2
    go_ret
    refine ⟨rfl, ?_⟩
    (repeat (first | with_reducible exact Below.refl _ _ | with_reducible exact hbw | (with_reducible refine Below.setCell ?_ ?_ _; rotate_left; · first | exact Nat.le_refl _ | omega | (simp; done) | (simp; omega)) | (with_reducible refine Below.alloc ?_ ?_ _; rotate_left; · first | exact Nat.le_refl _ | omega | (simp; done) | (simp; omega)) | with_reducible refine below_drewN ?_ _ | with_reducible refine Below.drew ?_))

end Go.Proofs.Ytemmnjokojgjaaa
