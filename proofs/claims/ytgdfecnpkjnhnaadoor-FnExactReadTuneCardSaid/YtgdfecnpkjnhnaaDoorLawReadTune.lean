/- The law FnExactReadTune returns true and leaves memory as it was. -/
import Derived.Test.YtgdfecnpkjnhnaaDoorReadTuI
import Derived.Test.YtgdfecnpkjnhnaaDoorKTun
set_option linter.unusedSimpArgs false
set_option linter.unnecessarySimpa false
set_option linter.unusedVariables false
set_option maxRecDepth 100000
namespace Go.Proofs.YtgdfecnpkjnhnaaDoor
open Go.RowKit

set_option maxHeartbeats 4000000 in
theorem lawReadTune (w : World) (s0 : ByteArray) (p0 : s0.size ≤ maxLen) (ht : Lay w) :
    Calls Tryd.prog 6 #[.string s0] w fun e w' => e = .returned (.bool true) ∧ Below w.heap.size w w' := by
  unfold maxLen at p0
  by_cases g0 : s0.size ≤ 1048576
  · skip
    have q0 : s0.size ≤ 1048576 := g0
    have hbd := rtV_len s0
    go_enter Tryd.func6, Tryd.ntmps6
    go_wp2_with fail
    refine (specReadTune_any (s0) _ q0).mono ?_
    rintro e w1 ⟨v1, rfl, ho2, h1⟩
    obtain ⟨a3, c4, rfl⟩ := ho2.form
    have f5 : OwnTun w.heap.size w1.heap.size w1 (.agg #[.string (rtV (s0)).name, .slice a3 (rtV (s0)).tones.length c4]) (rtV (s0)) := ho2
    clear ho2
    have sz1 : w.heap.size ≤ w1.heap.size := h1.size
    have bw1 : Below w.heap.size w w1 := h1
    go_wp2_with fail
    refine (implReadTune_any (s0) _ q0 (ht.mono (by have hbw := bw1; (repeat (first | with_reducible exact Below.refl _ _ | with_reducible exact hbw | (with_reducible refine Below.setCell ?_ ?_ _; rotate_left; · first | exact Nat.le_refl _ | omega | (simp; done) | (simp; omega)) | (with_reducible refine Below.alloc ?_ ?_ _; rotate_left; · first | exact Nat.le_refl _ | omega | (simp; done) | (simp; omega)) | with_reducible refine below_drewN ?_ _ | with_reducible refine Below.drew ?_))))).mono ?_
    rintro e w2 ⟨v7, rfl, ho8, h2⟩
    obtain ⟨a9, c10, rfl⟩ := ho8.form
    have f11 : OwnTun (w1.heap.size + 1) w2.heap.size w2 (.agg #[.string (rtV (s0)).name, .slice a9 (rtV (s0)).tones.length c10]) (rtV (s0)) := ho8.wide (by simp) (Nat.le_refl _)
    clear ho8
    have st12 : Below w1.heap.size w1 w2 := Below.trans (by (repeat (first | with_reducible exact Below.refl _ _ | with_reducible exact hbw | (with_reducible refine Below.setCell ?_ ?_ _; rotate_left; · first | exact Nat.le_refl _ | omega | (simp; done) | (simp; omega)) | (with_reducible refine Below.alloc ?_ ?_ _; rotate_left; · first | exact Nat.le_refl _ | omega | (simp; done) | (simp; omega)) | with_reducible refine below_drewN ?_ _ | with_reducible refine Below.drew ?_))) (h2.mono (by first | exact Nat.le_refl _ | omega | (simp; done) | (simp; omega)))
    have sz2 : w1.heap.size + 1 ≤ w2.heap.size := by have := h2.size; simp at this ⊢; omega
    have bw2 : Below w.heap.size w w2 := bw1.trans (st12.mono bw1.size)
    have f13 := f5.mono st12
    have x14 : w2.cell? ⟨w1.heap.size, 0, none⟩ = some (.string (rtV (s0)).name) := cellB h2 (by simp [go_sem])
    have x15 : w2.cell? ⟨w1.heap.size, 1, none⟩ = some (.slice a3 (rtV (s0)).tones.length c4) := cellB h2 (by simp [go_sem])
    have l16 : w1.heap.size < w2.heap.size := by omega
    clear f5 h2
    go_wp2_with fail
    refine (eqTunK _ _ (rtV (s0)) _ ((OwnTun.rd f11).mono (by (repeat (first | with_reducible exact Below.refl _ _ | with_reducible exact hbw | (with_reducible refine Below.setCell ?_ ?_ _; rotate_left; · first | exact Nat.le_refl _ | omega | (simp; done) | (simp; omega)) | (with_reducible refine Below.alloc ?_ ?_ _; rotate_left; · first | exact Nat.le_refl _ | omega | (simp; done) | (simp; omega)) | with_reducible refine below_drewN ?_ _ | with_reducible refine Below.drew ?_)))) ((OwnTun.rd f13).mono (by (repeat (first | with_reducible exact Below.refl _ _ | with_reducible exact hbw | (with_reducible refine Below.setCell ?_ ?_ _; rotate_left; · first | exact Nat.le_refl _ | omega | (simp; done) | (simp; omega)) | (with_reducible refine Below.alloc ?_ ?_ _; rotate_left; · first | exact Nat.le_refl _ | omega | (simp; done) | (simp; omega)) | with_reducible refine below_drewN ?_ _ | with_reducible refine Below.drew ?_))))).mono ?_
    rintro e w3 ⟨rfl, h3⟩
    have st17 : Below w2.heap.size w2 w3 := Below.trans (by (repeat (first | with_reducible exact Below.refl _ _ | with_reducible exact hbw | (with_reducible refine Below.setCell ?_ ?_ _; rotate_left; · first | exact Nat.le_refl _ | omega | (simp; done) | (simp; omega)) | (with_reducible refine Below.alloc ?_ ?_ _; rotate_left; · first | exact Nat.le_refl _ | omega | (simp; done) | (simp; omega)) | with_reducible refine below_drewN ?_ _ | with_reducible refine Below.drew ?_))) (h3.mono (by first | exact Nat.le_refl _ | omega | (simp; done) | (simp; omega)))
    have sz3 : w2.heap.size + 1 ≤ w3.heap.size := by have := h3.size; simp at this ⊢; omega
    have bw3 : Below w.heap.size w w3 := bw2.trans (st17.mono bw2.size)
    have f18 := f13.mono st17
    have f19 := f11.mono st17
    have x20 : w3.cell? ⟨w1.heap.size, 0, none⟩ = some (.string (rtV (s0)).name) := cellB st17 x14
    have x21 : w3.cell? ⟨w1.heap.size, 1, none⟩ = some (.slice a3 (rtV (s0)).tones.length c4) := cellB st17 x15
    have l22 : w1.heap.size < w3.heap.size := by omega
    have x23 : w3.cell? ⟨w2.heap.size, 0, none⟩ = some (.string (rtV (s0)).name) := cellB h3 (by simp [go_sem])
    have x24 : w3.cell? ⟨w2.heap.size, 1, none⟩ = some (.slice a9 (rtV (s0)).tones.length c10) := cellB h3 (by simp [go_sem])
    have l25 : w2.heap.size < w3.heap.size := by omega
    clear f13 f11 x14 x15 l16 h3
    go_wp2_with fail
    refine (markTunK _ _ _ (rtV (s0)) (1) _ f19 (by omega) (by have := hbd; omega)).mono ?_
    rintro e w4 ⟨rfl, f26, t4⟩
    have sz4 : w3.heap.size ≤ w4.heap.size := t4.size
    have bw4 : Below w.heap.size w w4 := t4.below bw3 (by omega) (by omega)
    have f28 := f18.touch t4 (by omega)
    have x30 : w4.cell? ⟨w1.heap.size, 0, none⟩ = some (.string (rtV (s0)).name) := cellT t4 x20 (by simp only; omega)
    have x31 : w4.cell? ⟨w1.heap.size, 1, none⟩ = some (.slice a3 (rtV (s0)).tones.length c4) := cellT t4 x21 (by simp only; omega)
    have l32 : w1.heap.size < w4.heap.size := by omega
    have x33 : w4.cell? ⟨w2.heap.size, 0, none⟩ = some (.string (rtV (s0)).name) := cellT t4 x23 (by simp only; omega)
    have x34 : w4.cell? ⟨w2.heap.size, 1, none⟩ = some (.slice a9 (rtV (s0)).tones.length c10) := cellT t4 x24 (by simp only; omega)
    have l35 : w2.heap.size < w4.heap.size := by omega
    clear f18 x20 x21 l22 x23 x24 l25
    clear f19
    go_wp2_with fail
    refine (heldTunK _ _ _ (rtV (s0)) (1) _ f26 (by omega) (by have := hbd; omega)).mono ?_
    rintro e w5 ⟨rfl, h5⟩
    have sz5 : w4.heap.size ≤ w5.heap.size := h5.size
    have bw5 : Below w.heap.size w w5 := bw4.trans (h5.mono bw4.size)
    have f37 := f28.mono h5
    have f38 := f26.mono h5
    have x39 : w5.cell? ⟨w1.heap.size, 0, none⟩ = some (.string (rtV (s0)).name) := cellB h5 x30
    have x40 : w5.cell? ⟨w1.heap.size, 1, none⟩ = some (.slice a3 (rtV (s0)).tones.length c4) := cellB h5 x31
    have l41 : w1.heap.size < w5.heap.size := by omega
    have x42 : w5.cell? ⟨w2.heap.size, 0, none⟩ = some (.string (rtV (s0)).name) := cellB h5 x33
    have x43 : w5.cell? ⟨w2.heap.size, 1, none⟩ = some (.slice a9 (rtV (s0)).tones.length c10) := cellB h5 x34
    have l44 : w2.heap.size < w5.heap.size := by omega
    clear f28 f26 x30 x31 l32 x33 x34 l35
    go_wp2_with fail
    refine (implReadTune_any (s0) _ q0 (ht.mono (by have hbw := bw5; (repeat (first | with_reducible exact Below.refl _ _ | with_reducible exact hbw | (with_reducible refine Below.setCell ?_ ?_ _; rotate_left; · first | exact Nat.le_refl _ | omega | (simp; done) | (simp; omega)) | (with_reducible refine Below.alloc ?_ ?_ _; rotate_left; · first | exact Nat.le_refl _ | omega | (simp; done) | (simp; omega)) | with_reducible refine below_drewN ?_ _ | with_reducible refine Below.drew ?_))))).mono ?_
    rintro e w6 ⟨v45, rfl, ho46, h6⟩
    obtain ⟨a47, c48, rfl⟩ := ho46.form
    have f49 : OwnTun w5.heap.size w6.heap.size w6 (.agg #[.string (rtV (s0)).name, .slice a47 (rtV (s0)).tones.length c48]) (rtV (s0)) := ho46
    clear ho46
    have sz6 : w5.heap.size ≤ w6.heap.size := h6.size
    have bw6 : Below w.heap.size w w6 := bw5.trans (h6.mono bw5.size)
    have f51 := f37.mono h6
    have f52 := f38.mono h6
    have x53 : w6.cell? ⟨w1.heap.size, 0, none⟩ = some (.string (rtV (s0)).name) := cellB h6 x39
    have x54 : w6.cell? ⟨w1.heap.size, 1, none⟩ = some (.slice a3 (rtV (s0)).tones.length c4) := cellB h6 x40
    have l55 : w1.heap.size < w6.heap.size := by omega
    have x56 : w6.cell? ⟨w2.heap.size, 0, none⟩ = some (.string (rtV (s0)).name) := cellB h6 x42
    have x57 : w6.cell? ⟨w2.heap.size, 1, none⟩ = some (.slice a9 (rtV (s0)).tones.length c10) := cellB h6 x43
    have l58 : w2.heap.size < w6.heap.size := by omega
    clear f37 f38 x39 x40 l41 x42 x43 l44
    go_wp2_with fail
    refine (eqTunK _ _ (rtV (s0)) _ ((OwnTun.rd f49).mono (by (repeat (first | with_reducible exact Below.refl _ _ | with_reducible exact hbw | (with_reducible refine Below.setCell ?_ ?_ _; rotate_left; · first | exact Nat.le_refl _ | omega | (simp; done) | (simp; omega)) | (with_reducible refine Below.alloc ?_ ?_ _; rotate_left; · first | exact Nat.le_refl _ | omega | (simp; done) | (simp; omega)) | with_reducible refine below_drewN ?_ _ | with_reducible refine Below.drew ?_)))) ((OwnTun.rd f51).mono (by (repeat (first | with_reducible exact Below.refl _ _ | with_reducible exact hbw | (with_reducible refine Below.setCell ?_ ?_ _; rotate_left; · first | exact Nat.le_refl _ | omega | (simp; done) | (simp; omega)) | (with_reducible refine Below.alloc ?_ ?_ _; rotate_left; · first | exact Nat.le_refl _ | omega | (simp; done) | (simp; omega)) | with_reducible refine below_drewN ?_ _ | with_reducible refine Below.drew ?_))))).mono ?_
    rintro e w7 ⟨rfl, h7⟩
    have st59 : Below w6.heap.size w6 w7 := Below.trans (by (repeat (first | with_reducible exact Below.refl _ _ | with_reducible exact hbw | (with_reducible refine Below.setCell ?_ ?_ _; rotate_left; · first | exact Nat.le_refl _ | omega | (simp; done) | (simp; omega)) | (with_reducible refine Below.alloc ?_ ?_ _; rotate_left; · first | exact Nat.le_refl _ | omega | (simp; done) | (simp; omega)) | with_reducible refine below_drewN ?_ _ | with_reducible refine Below.drew ?_))) (h7.mono (by first | exact Nat.le_refl _ | omega | (simp; done) | (simp; omega)))
    have sz7 : w6.heap.size + 1 ≤ w7.heap.size := by have := h7.size; simp at this ⊢; omega
    have bw7 : Below w.heap.size w w7 := bw6.trans (st59.mono bw6.size)
    have f60 := f51.mono st59
    have f61 := f52.mono st59
    have f62 := f49.mono st59
    have x63 : w7.cell? ⟨w1.heap.size, 0, none⟩ = some (.string (rtV (s0)).name) := cellB st59 x53
    have x64 : w7.cell? ⟨w1.heap.size, 1, none⟩ = some (.slice a3 (rtV (s0)).tones.length c4) := cellB st59 x54
    have l65 : w1.heap.size < w7.heap.size := by omega
    have x66 : w7.cell? ⟨w2.heap.size, 0, none⟩ = some (.string (rtV (s0)).name) := cellB st59 x56
    have x67 : w7.cell? ⟨w2.heap.size, 1, none⟩ = some (.slice a9 (rtV (s0)).tones.length c10) := cellB st59 x57
    have l68 : w2.heap.size < w7.heap.size := by omega
    have x69 : w7.cell? ⟨w6.heap.size, 0, none⟩ = some (.string (rtV (s0)).name) := cellB h7 (by simp [go_sem])
    have x70 : w7.cell? ⟨w6.heap.size, 1, none⟩ = some (.slice a47 (rtV (s0)).tones.length c48) := cellB h7 (by simp [go_sem])
    have l71 : w6.heap.size < w7.heap.size := by omega
    clear f51 f52 f49 x53 x54 l55 x56 x57 l58 h7
    go_wp2_with fail
    refine (heldTunK _ _ _ (rtV (s0)) (1) _ f61 (by omega) (by have := hbd; omega)).mono ?_
    rintro e w8 ⟨rfl, h8⟩
    have sz8 : w7.heap.size ≤ w8.heap.size := h8.size
    have bw8 : Below w.heap.size w w8 := bw7.trans (h8.mono bw7.size)
    have f73 := f60.mono h8
    have f74 := f61.mono h8
    have f75 := f62.mono h8
    have x76 : w8.cell? ⟨w1.heap.size, 0, none⟩ = some (.string (rtV (s0)).name) := cellB h8 x63
    have x77 : w8.cell? ⟨w1.heap.size, 1, none⟩ = some (.slice a3 (rtV (s0)).tones.length c4) := cellB h8 x64
    have l78 : w1.heap.size < w8.heap.size := by omega
    have x79 : w8.cell? ⟨w2.heap.size, 0, none⟩ = some (.string (rtV (s0)).name) := cellB h8 x66
    have x80 : w8.cell? ⟨w2.heap.size, 1, none⟩ = some (.slice a9 (rtV (s0)).tones.length c10) := cellB h8 x67
    have l81 : w2.heap.size < w8.heap.size := by omega
    have x82 : w8.cell? ⟨w6.heap.size, 0, none⟩ = some (.string (rtV (s0)).name) := cellB h8 x69
    have x83 : w8.cell? ⟨w6.heap.size, 1, none⟩ = some (.slice a47 (rtV (s0)).tones.length c48) := cellB h8 x70
    have l84 : w6.heap.size < w8.heap.size := by omega
    clear f60 f61 f62 x63 x64 l65 x66 x67 l68 x69 x70 l71
    go_wp2
    go_ret
    exact ⟨rfl, bw8⟩
  · skip
    go_enter Tryd.func6, Tryd.ntmps6
    go_wp2
    go_ret
    refine ⟨rfl, ?_⟩
    (repeat (first | with_reducible exact Below.refl _ _ | with_reducible exact hbw | (with_reducible refine Below.setCell ?_ ?_ _; rotate_left; · first | exact Nat.le_refl _ | omega | (simp; done) | (simp; omega)) | (with_reducible refine Below.alloc ?_ ?_ _; rotate_left; · first | exact Nat.le_refl _ | omega | (simp; done) | (simp; omega)) | with_reducible refine below_drewN ?_ _ | with_reducible refine Below.drew ?_))

end Go.Proofs.YtgdfecnpkjnhnaaDoor
