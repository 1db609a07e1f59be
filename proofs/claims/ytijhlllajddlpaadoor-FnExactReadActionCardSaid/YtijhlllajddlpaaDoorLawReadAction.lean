/- The law FnExactReadAction returns true and leaves memory as it was. -/
import Derived.Test.YtijhlllajddlpaaDoorReadActS
import Derived.Test.YtijhlllajddlpaaDoorKAct
set_option linter.unusedSimpArgs false
set_option linter.unnecessarySimpa false
set_option linter.unusedVariables false
set_option maxRecDepth 100000
namespace Go.Proofs.YtijhlllajddlpaaDoor
open Go.RowKit

set_option maxHeartbeats 4000000 in
theorem lawReadAction (w : World) (s0 : ByteArray) (p0 : s0.size ≤ maxLen) (ht : Lay w) :
    Calls Tryd.prog 4 #[.string s0] w fun e w' => e = .returned (.bool true) ∧ Below w.heap.size w w' := by
  unfold maxLen at p0
  by_cases g0 : s0.size ≤ 1048576
  · skip
    have q0 : s0.size ≤ 1048576 := g0
    have hbd := rdV_len s0
    go_enter Tryd.func4, Tryd.ntmps4
    go_wp2_with fail
    refine (specReadAction_any (s0) _ q0).mono ?_
    rintro e w1 ⟨v1, rfl, ho2, h1⟩
    obtain ⟨a3, c4, rfl⟩ := ho2.form
    have f5 : OwnAct w.heap.size w1.heap.size w1 (.agg #[.int .i64 (rdV (s0)).note, .slice a3 (rdV (s0)).levs.length c4, .int .i64 (rdV (s0)).slack, .int .i64 (rdV (s0)).weight]) (rdV (s0)) := ho2
    clear ho2
    have sz1 : w.heap.size ≤ w1.heap.size := h1.size
    have bw1 : Below w.heap.size w w1 := h1
    go_wp2_with fail
    refine (implReadAction_any (s0) _ q0 (ht.mono (by have hbw := bw1; (repeat (first | with_reducible exact Below.refl _ _ | with_reducible exact hbw | (with_reducible refine Below.setCell ?_ ?_ _; rotate_left; · first | exact Nat.le_refl _ | omega | (simp; done) | (simp; omega)) | (with_reducible refine Below.alloc ?_ ?_ _; rotate_left; · first | exact Nat.le_refl _ | omega | (simp; done) | (simp; omega)) | with_reducible refine below_drewN ?_ _ | with_reducible refine Below.drew ?_))))).mono ?_
    rintro e w2 ⟨v7, rfl, ho8, h2⟩
    obtain ⟨a9, c10, rfl⟩ := ho8.form
    have f11 : OwnAct (w1.heap.size + 1) w2.heap.size w2 (.agg #[.int .i64 (rdV (s0)).note, .slice a9 (rdV (s0)).levs.length c10, .int .i64 (rdV (s0)).slack, .int .i64 (rdV (s0)).weight]) (rdV (s0)) := ho8.wide (by simp) (Nat.le_refl _)
    clear ho8
    have st12 : Below w1.heap.size w1 w2 := Below.trans (by (repeat (first | with_reducible exact Below.refl _ _ | with_reducible exact hbw | (with_reducible refine Below.setCell ?_ ?_ _; rotate_left; · first | exact Nat.le_refl _ | omega | (simp; done) | (simp; omega)) | (with_reducible refine Below.alloc ?_ ?_ _; rotate_left; · first | exact Nat.le_refl _ | omega | (simp; done) | (simp; omega)) | with_reducible refine below_drewN ?_ _ | with_reducible refine Below.drew ?_))) (h2.mono (by first | exact Nat.le_refl _ | omega | (simp; done) | (simp; omega)))
    have sz2 : w1.heap.size + 1 ≤ w2.heap.size := by have := h2.size; simp at this ⊢; omega
    have bw2 : Below w.heap.size w w2 := bw1.trans (st12.mono bw1.size)
    have f13 := f5.mono st12
    have x14 : w2.cell? ⟨w1.heap.size, 0, none⟩ = some (.int .i64 (rdV (s0)).note) := cellB h2 (by simp [go_sem])
    have x15 : w2.cell? ⟨w1.heap.size, 1, none⟩ = some (.slice a3 (rdV (s0)).levs.length c4) := cellB h2 (by simp [go_sem])
    have x16 : w2.cell? ⟨w1.heap.size, 2, none⟩ = some (.int .i64 (rdV (s0)).slack) := cellB h2 (by simp [go_sem])
    have x17 : w2.cell? ⟨w1.heap.size, 3, none⟩ = some (.int .i64 (rdV (s0)).weight) := cellB h2 (by simp [go_sem])
    have l18 : w1.heap.size < w2.heap.size := by omega
    clear f5 h2
    go_wp2_with fail
    refine (eqActK _ _ (rdV (s0)) _ ((OwnAct.rd f11).mono (by (repeat (first | with_reducible exact Below.refl _ _ | with_reducible exact hbw | (with_reducible refine Below.setCell ?_ ?_ _; rotate_left; · first | exact Nat.le_refl _ | omega | (simp; done) | (simp; omega)) | (with_reducible refine Below.alloc ?_ ?_ _; rotate_left; · first | exact Nat.le_refl _ | omega | (simp; done) | (simp; omega)) | with_reducible refine below_drewN ?_ _ | with_reducible refine Below.drew ?_)))) ((OwnAct.rd f13).mono (by (repeat (first | with_reducible exact Below.refl _ _ | with_reducible exact hbw | (with_reducible refine Below.setCell ?_ ?_ _; rotate_left; · first | exact Nat.le_refl _ | omega | (simp; done) | (simp; omega)) | (with_reducible refine Below.alloc ?_ ?_ _; rotate_left; · first | exact Nat.le_refl _ | omega | (simp; done) | (simp; omega)) | with_reducible refine below_drewN ?_ _ | with_reducible refine Below.drew ?_))))).mono ?_
    rintro e w3 ⟨rfl, h3⟩
    have st19 : Below w2.heap.size w2 w3 := Below.trans (by (repeat (first | with_reducible exact Below.refl _ _ | with_reducible exact hbw | (with_reducible refine Below.setCell ?_ ?_ _; rotate_left; · first | exact Nat.le_refl _ | omega | (simp; done) | (simp; omega)) | (with_reducible refine Below.alloc ?_ ?_ _; rotate_left; · first | exact Nat.le_refl _ | omega | (simp; done) | (simp; omega)) | with_reducible refine below_drewN ?_ _ | with_reducible refine Below.drew ?_))) (h3.mono (by first | exact Nat.le_refl _ | omega | (simp; done) | (simp; omega)))
    have sz3 : w2.heap.size + 1 ≤ w3.heap.size := by have := h3.size; simp at this ⊢; omega
    have bw3 : Below w.heap.size w w3 := bw2.trans (st19.mono bw2.size)
    have f20 := f13.mono st19
    have f21 := f11.mono st19
    have x22 : w3.cell? ⟨w1.heap.size, 0, none⟩ = some (.int .i64 (rdV (s0)).note) := cellB st19 x14
    have x23 : w3.cell? ⟨w1.heap.size, 1, none⟩ = some (.slice a3 (rdV (s0)).levs.length c4) := cellB st19 x15
    have x24 : w3.cell? ⟨w1.heap.size, 2, none⟩ = some (.int .i64 (rdV (s0)).slack) := cellB st19 x16
    have x25 : w3.cell? ⟨w1.heap.size, 3, none⟩ = some (.int .i64 (rdV (s0)).weight) := cellB st19 x17
    have l26 : w1.heap.size < w3.heap.size := by omega
    have x27 : w3.cell? ⟨w2.heap.size, 0, none⟩ = some (.int .i64 (rdV (s0)).note) := cellB h3 (by simp [go_sem])
    have x28 : w3.cell? ⟨w2.heap.size, 1, none⟩ = some (.slice a9 (rdV (s0)).levs.length c10) := cellB h3 (by simp [go_sem])
    have x29 : w3.cell? ⟨w2.heap.size, 2, none⟩ = some (.int .i64 (rdV (s0)).slack) := cellB h3 (by simp [go_sem])
    have x30 : w3.cell? ⟨w2.heap.size, 3, none⟩ = some (.int .i64 (rdV (s0)).weight) := cellB h3 (by simp [go_sem])
    have l31 : w2.heap.size < w3.heap.size := by omega
    clear f13 f11 x14 x15 x16 x17 l18 h3
    go_wp2_with fail
    refine (markActK _ _ _ (rdV (s0)) (1) _ f21 (by omega) (by have := hbd; omega)).mono ?_
    rintro e w4 ⟨rfl, f32, t4⟩
    have sz4 : w3.heap.size ≤ w4.heap.size := t4.size
    have bw4 : Below w.heap.size w w4 := t4.below bw3 (by omega) (by omega)
    have f34 := f20.touch t4 (by omega)
    have x36 : w4.cell? ⟨w1.heap.size, 0, none⟩ = some (.int .i64 (rdV (s0)).note) := cellT t4 x22 (by simp only; omega)
    have x37 : w4.cell? ⟨w1.heap.size, 1, none⟩ = some (.slice a3 (rdV (s0)).levs.length c4) := cellT t4 x23 (by simp only; omega)
    have x38 : w4.cell? ⟨w1.heap.size, 2, none⟩ = some (.int .i64 (rdV (s0)).slack) := cellT t4 x24 (by simp only; omega)
    have x39 : w4.cell? ⟨w1.heap.size, 3, none⟩ = some (.int .i64 (rdV (s0)).weight) := cellT t4 x25 (by simp only; omega)
    have l40 : w1.heap.size < w4.heap.size := by omega
    have x41 : w4.cell? ⟨w2.heap.size, 0, none⟩ = some (.int .i64 (rdV (s0)).note) := cellT t4 x27 (by simp only; omega)
    have x42 : w4.cell? ⟨w2.heap.size, 1, none⟩ = some (.slice a9 (rdV (s0)).levs.length c10) := cellT t4 x28 (by simp only; omega)
    have x43 : w4.cell? ⟨w2.heap.size, 2, none⟩ = some (.int .i64 (rdV (s0)).slack) := cellT t4 x29 (by simp only; omega)
    have x44 : w4.cell? ⟨w2.heap.size, 3, none⟩ = some (.int .i64 (rdV (s0)).weight) := cellT t4 x30 (by simp only; omega)
    have l45 : w2.heap.size < w4.heap.size := by omega
    clear f20 x22 x23 x24 x25 l26 x27 x28 x29 x30 l31
    clear f21
    go_wp2_with fail
    refine (heldActK _ _ _ (rdV (s0)) (1) _ f32 (by omega) (by have := hbd; omega)).mono ?_
    rintro e w5 ⟨rfl, h5⟩
    have sz5 : w4.heap.size ≤ w5.heap.size := h5.size
    have bw5 : Below w.heap.size w w5 := bw4.trans (h5.mono bw4.size)
    have f47 := f34.mono h5
    have f48 := f32.mono h5
    have x49 : w5.cell? ⟨w1.heap.size, 0, none⟩ = some (.int .i64 (rdV (s0)).note) := cellB h5 x36
    have x50 : w5.cell? ⟨w1.heap.size, 1, none⟩ = some (.slice a3 (rdV (s0)).levs.length c4) := cellB h5 x37
    have x51 : w5.cell? ⟨w1.heap.size, 2, none⟩ = some (.int .i64 (rdV (s0)).slack) := cellB h5 x38
    have x52 : w5.cell? ⟨w1.heap.size, 3, none⟩ = some (.int .i64 (rdV (s0)).weight) := cellB h5 x39
    have l53 : w1.heap.size < w5.heap.size := by omega
    have x54 : w5.cell? ⟨w2.heap.size, 0, none⟩ = some (.int .i64 (rdV (s0)).note) := cellB h5 x41
    have x55 : w5.cell? ⟨w2.heap.size, 1, none⟩ = some (.slice a9 (rdV (s0)).levs.length c10) := cellB h5 x42
    have x56 : w5.cell? ⟨w2.heap.size, 2, none⟩ = some (.int .i64 (rdV (s0)).slack) := cellB h5 x43
    have x57 : w5.cell? ⟨w2.heap.size, 3, none⟩ = some (.int .i64 (rdV (s0)).weight) := cellB h5 x44
    have l58 : w2.heap.size < w5.heap.size := by omega
    clear f34 f32 x36 x37 x38 x39 l40 x41 x42 x43 x44 l45
    go_wp2_with fail
    refine (implReadAction_any (s0) _ q0 (ht.mono (by have hbw := bw5; (repeat (first | with_reducible exact Below.refl _ _ | with_reducible exact hbw | (with_reducible refine Below.setCell ?_ ?_ _; rotate_left; · first | exact Nat.le_refl _ | omega | (simp; done) | (simp; omega)) | (with_reducible refine Below.alloc ?_ ?_ _; rotate_left; · first | exact Nat.le_refl _ | omega | (simp; done) | (simp; omega)) | with_reducible refine below_drewN ?_ _ | with_reducible refine Below.drew ?_))))).mono ?_
    rintro e w6 ⟨v59, rfl, ho60, h6⟩
    obtain ⟨a61, c62, rfl⟩ := ho60.form
    have f63 : OwnAct w5.heap.size w6.heap.size w6 (.agg #[.int .i64 (rdV (s0)).note, .slice a61 (rdV (s0)).levs.length c62, .int .i64 (rdV (s0)).slack, .int .i64 (rdV (s0)).weight]) (rdV (s0)) := ho60
    clear ho60
    have sz6 : w5.heap.size ≤ w6.heap.size := h6.size
    have bw6 : Below w.heap.size w w6 := bw5.trans (h6.mono bw5.size)
    have f65 := f47.mono h6
    have f66 := f48.mono h6
    have x67 : w6.cell? ⟨w1.heap.size, 0, none⟩ = some (.int .i64 (rdV (s0)).note) := cellB h6 x49
    have x68 : w6.cell? ⟨w1.heap.size, 1, none⟩ = some (.slice a3 (rdV (s0)).levs.length c4) := cellB h6 x50
    have x69 : w6.cell? ⟨w1.heap.size, 2, none⟩ = some (.int .i64 (rdV (s0)).slack) := cellB h6 x51
    have x70 : w6.cell? ⟨w1.heap.size, 3, none⟩ = some (.int .i64 (rdV (s0)).weight) := cellB h6 x52
    have l71 : w1.heap.size < w6.heap.size := by omega
    have x72 : w6.cell? ⟨w2.heap.size, 0, none⟩ = some (.int .i64 (rdV (s0)).note) := cellB h6 x54
    have x73 : w6.cell? ⟨w2.heap.size, 1, none⟩ = some (.slice a9 (rdV (s0)).levs.length c10) := cellB h6 x55
    have x74 : w6.cell? ⟨w2.heap.size, 2, none⟩ = some (.int .i64 (rdV (s0)).slack) := cellB h6 x56
    have x75 : w6.cell? ⟨w2.heap.size, 3, none⟩ = some (.int .i64 (rdV (s0)).weight) := cellB h6 x57
    have l76 : w2.heap.size < w6.heap.size := by omega
    clear f47 f48 x49 x50 x51 x52 l53 x54 x55 x56 x57 l58
    go_wp2_with fail
    refine (eqActK _ _ (rdV (s0)) _ ((OwnAct.rd f63).mono (by (repeat (first | with_reducible exact Below.refl _ _ | with_reducible exact hbw | (with_reducible refine Below.setCell ?_ ?_ _; rotate_left; · first | exact Nat.le_refl _ | omega | (simp; done) | (simp; omega)) | (with_reducible refine Below.alloc ?_ ?_ _; rotate_left; · first | exact Nat.le_refl _ | omega | (simp; done) | (simp; omega)) | with_reducible refine below_drewN ?_ _ | with_reducible refine Below.drew ?_)))) ((OwnAct.rd f65).mono (by (repeat (first | with_reducible exact Below.refl _ _ | with_reducible exact hbw | (with_reducible refine Below.setCell ?_ ?_ _; rotate_left; · first | exact Nat.le_refl _ | omega | (simp; done) | (simp; omega)) | (with_reducible refine Below.alloc ?_ ?_ _; rotate_left; · first | exact Nat.le_refl _ | omega | (simp; done) | (simp; omega)) | with_reducible refine below_drewN ?_ _ | with_reducible refine Below.drew ?_))))).mono ?_
    rintro e w7 ⟨rfl, h7⟩
    have st77 : Below w6.heap.size w6 w7 := Below.trans (by (repeat (first | with_reducible exact Below.refl _ _ | with_reducible exact hbw | (with_reducible refine Below.setCell ?_ ?_ _; rotate_left; · first | exact Nat.le_refl _ | omega | (simp; done) | (simp; omega)) | (with_reducible refine Below.alloc ?_ ?_ _; rotate_left; · first | exact Nat.le_refl _ | omega | (simp; done) | (simp; omega)) | with_reducible refine below_drewN ?_ _ | with_reducible refine Below.drew ?_))) (h7.mono (by first | exact Nat.le_refl _ | omega | (simp; done) | (simp; omega)))
    have sz7 : w6.heap.size + 1 ≤ w7.heap.size := by have := h7.size; simp at this ⊢; omega
    have bw7 : Below w.heap.size w w7 := bw6.trans (st77.mono bw6.size)
    have f78 := f65.mono st77
    have f79 := f66.mono st77
    have f80 := f63.mono st77
    have x81 : w7.cell? ⟨w1.heap.size, 0, none⟩ = some (.int .i64 (rdV (s0)).note) := cellB st77 x67
    have x82 : w7.cell? ⟨w1.heap.size, 1, none⟩ = some (.slice a3 (rdV (s0)).levs.length c4) := cellB st77 x68
    have x83 : w7.cell? ⟨w1.heap.size, 2, none⟩ = some (.int .i64 (rdV (s0)).slack) := cellB st77 x69
    have x84 : w7.cell? ⟨w1.heap.size, 3, none⟩ = some (.int .i64 (rdV (s0)).weight) := cellB st77 x70
    have l85 : w1.heap.size < w7.heap.size := by omega
    have x86 : w7.cell? ⟨w2.heap.size, 0, none⟩ = some (.int .i64 (rdV (s0)).note) := cellB st77 x72
    have x87 : w7.cell? ⟨w2.heap.size, 1, none⟩ = some (.slice a9 (rdV (s0)).levs.length c10) := cellB st77 x73
    have x88 : w7.cell? ⟨w2.heap.size, 2, none⟩ = some (.int .i64 (rdV (s0)).slack) := cellB st77 x74
    have x89 : w7.cell? ⟨w2.heap.size, 3, none⟩ = some (.int .i64 (rdV (s0)).weight) := cellB st77 x75
    have l90 : w2.heap.size < w7.heap.size := by omega
    have x91 : w7.cell? ⟨w6.heap.size, 0, none⟩ = some (.int .i64 (rdV (s0)).note) := cellB h7 (by simp [go_sem])
    have x92 : w7.cell? ⟨w6.heap.size, 1, none⟩ = some (.slice a61 (rdV (s0)).levs.length c62) := cellB h7 (by simp [go_sem])
    have x93 : w7.cell? ⟨w6.heap.size, 2, none⟩ = some (.int .i64 (rdV (s0)).slack) := cellB h7 (by simp [go_sem])
    have x94 : w7.cell? ⟨w6.heap.size, 3, none⟩ = some (.int .i64 (rdV (s0)).weight) := cellB h7 (by simp [go_sem])
    have l95 : w6.heap.size < w7.heap.size := by omega
    clear f65 f66 f63 x67 x68 x69 x70 l71 x72 x73 x74 x75 l76 h7
    go_wp2_with fail
    refine (heldActK _ _ _ (rdV (s0)) (1) _ f79 (by omega) (by have := hbd; omega)).mono ?_
    rintro e w8 ⟨rfl, h8⟩
    have sz8 : w7.heap.size ≤ w8.heap.size := h8.size
    have bw8 : Below w.heap.size w w8 := bw7.trans (h8.mono bw7.size)
    have f97 := f78.mono h8
    have f98 := f79.mono h8
    have f99 := f80.mono h8
    have x100 : w8.cell? ⟨w1.heap.size, 0, none⟩ = some (.int .i64 (rdV (s0)).note) := cellB h8 x81
    have x101 : w8.cell? ⟨w1.heap.size, 1, none⟩ = some (.slice a3 (rdV (s0)).levs.length c4) := cellB h8 x82
    have x102 : w8.cell? ⟨w1.heap.size, 2, none⟩ = some (.int .i64 (rdV (s0)).slack) := cellB h8 x83
    have x103 : w8.cell? ⟨w1.heap.size, 3, none⟩ = some (.int .i64 (rdV (s0)).weight) := cellB h8 x84
    have l104 : w1.heap.size < w8.heap.size := by omega
    have x105 : w8.cell? ⟨w2.heap.size, 0, none⟩ = some (.int .i64 (rdV (s0)).note) := cellB h8 x86
    have x106 : w8.cell? ⟨w2.heap.size, 1, none⟩ = some (.slice a9 (rdV (s0)).levs.length c10) := cellB h8 x87
    have x107 : w8.cell? ⟨w2.heap.size, 2, none⟩ = some (.int .i64 (rdV (s0)).slack) := cellB h8 x88
    have x108 : w8.cell? ⟨w2.heap.size, 3, none⟩ = some (.int .i64 (rdV (s0)).weight) := cellB h8 x89
    have l109 : w2.heap.size < w8.heap.size := by omega
    have x110 : w8.cell? ⟨w6.heap.size, 0, none⟩ = some (.int .i64 (rdV (s0)).note) := cellB h8 x91
    have x111 : w8.cell? ⟨w6.heap.size, 1, none⟩ = some (.slice a61 (rdV (s0)).levs.length c62) := cellB h8 x92
    have x112 : w8.cell? ⟨w6.heap.size, 2, none⟩ = some (.int .i64 (rdV (s0)).slack) := cellB h8 x93
    have x113 : w8.cell? ⟨w6.heap.size, 3, none⟩ = some (.int .i64 (rdV (s0)).weight) := cellB h8 x94
    have l114 : w6.heap.size < w8.heap.size := by omega
    clear f78 f79 f80 x81 x82 x83 x84 l85 x86 x87 x88 x89 l90 x91 x92 x93 x94 l95
    go_wp2
    go_ret
    exact ⟨rfl, bw8⟩
  · skip
    go_enter Tryd.func4, Tryd.ntmps4
    go_wp2
    go_ret
    refine ⟨rfl, ?_⟩
    (repeat (first | with_reducible exact Below.refl _ _ | with_reducible exact hbw | (with_reducible refine Below.setCell ?_ ?_ _; rotate_left; · first | exact Nat.le_refl _ | omega | (simp; done) | (simp; omega)) | (with_reducible refine Below.alloc ?_ ?_ _; rotate_left; · first | exact Nat.le_refl _ | omega | (simp; done) | (simp; omega)) | with_reducible refine below_drewN ?_ _ | with_reducible refine Below.drew ?_))

end Go.Proofs.YtijhlllajddlpaaDoor
