/- The law FnExactSlackAfter returns true and leaves memory as it was. -/
import Derived.Test.YtjmapbgbmgaljaaSlack
set_option linter.unusedSimpArgs false
set_option linter.unnecessarySimpa false
set_option linter.unusedVariables false
set_option maxRecDepth 100000
namespace Go.Proofs.Ytjmapbgbmgaljaa
open Go.RowKit

set_option maxHeartbeats 4000000 in
theorem lawSlackAfter (w : World) (v0 : Value) (y0 : Value × ActD) (h0 : Acc w v0 y0.1 y0.2) (o0 : y0.2.ok) (n1 : Int) (o1 : I64 n1) (n2 : Int) (o2 : I64 n2) :
    Calls Try.prog 11 #[v0, .int .i64 n1, .int .i64 n2] w fun e w' => e = .returned (.bool true) ∧ Below w.heap.size w w' := by
  obtain ⟨l0, x0⟩ := y0
  obtain ⟨rfl, hl0⟩ := h0
  simp only at hl0 o0 ⊢
  have r0 : RdAct w (.agg #[.int .i64 (x0).note, l0, .int .i64 (x0).slack, .int .i64 (x0).weight]) x0 := ⟨l0, rfl, hl0⟩
  by_cases g0 : szAct x0 ≤ 1048576
  · skip
    have q0 : (x0).levs.length ≤ 1048576 := by have := g0; unfold szAct at this; omega
    have hbd := slack_len x0 n1 n2 (by omega)
    go_enter Try.func11, Try.ntmps11
    go_wp2_with fail
    refine (szActY _ (x0) (1048576) _ (r0.mono (by (repeat (first | with_reducible exact Below.refl _ _ | with_reducible exact hbw | (with_reducible refine Below.setCell ?_ ?_ _; rotate_left; · first | exact Nat.le_refl _ | omega | (simp; done) | (simp; omega)) | (with_reducible refine Below.alloc ?_ ?_ _; rotate_left; · first | exact Nat.le_refl _ | omega | (simp; done) | (simp; omega)) | with_reducible refine below_drewN ?_ _ | with_reducible refine Below.drew ?_)))) o0 (by omega) (by omega) (by omega)).mono ?_
    rintro e w1 ⟨rfl, h1⟩
    have st1 : Below w.heap.size w w1 := Below.trans (by (repeat (first | with_reducible exact Below.refl _ _ | with_reducible exact hbw | (with_reducible refine Below.setCell ?_ ?_ _; rotate_left; · first | exact Nat.le_refl _ | omega | (simp; done) | (simp; omega)) | (with_reducible refine Below.alloc ?_ ?_ _; rotate_left; · first | exact Nat.le_refl _ | omega | (simp; done) | (simp; omega)) | with_reducible refine below_drewN ?_ _ | with_reducible refine Below.drew ?_))) (h1.mono (by first | exact Nat.le_refl _ | omega | (simp; done) | (simp; omega)))
    have sz1 : w.heap.size + 1 ≤ w1.heap.size := by have := h1.size; simp at this ⊢; omega
    have bw1 : Below w.heap.size w w1 := st1
    have x2 : w1.cell? ⟨w.heap.size, 0, none⟩ = some (.int .i64 (x0).note) := cellB h1 (by simp [go_sem])
    have x3 : w1.cell? ⟨w.heap.size, 1, none⟩ = some (l0) := cellB h1 (by simp [go_sem])
    have x4 : w1.cell? ⟨w.heap.size, 2, none⟩ = some (.int .i64 (x0).slack) := cellB h1 (by simp [go_sem])
    have x5 : w1.cell? ⟨w.heap.size, 3, none⟩ = some (.int .i64 (x0).weight) := cellB h1 (by simp [go_sem])
    have l6 : w.heap.size < w1.heap.size := by omega
    clear h1
    go_wp2_with fail
    refine (toActK _ (x0) _ (r0.mono (by have hbw := bw1; (repeat (first | with_reducible exact Below.refl _ _ | with_reducible exact hbw | (with_reducible refine Below.setCell ?_ ?_ _; rotate_left; · first | exact Nat.le_refl _ | omega | (simp; done) | (simp; omega)) | (with_reducible refine Below.alloc ?_ ?_ _; rotate_left; · first | exact Nat.le_refl _ | omega | (simp; done) | (simp; omega)) | with_reducible refine below_drewN ?_ _ | with_reducible refine Below.drew ?_)))) q0).mono ?_
    rintro e w2 ⟨v7, rfl, ho8, h2⟩
    obtain ⟨a9, c10, rfl⟩ := ho8.form
    have f11 : OwnAct w1.heap.size w2.heap.size w2 (.agg #[.int .i64 (x0).note, .slice a9 (x0).levs.length c10, .int .i64 (x0).slack, .int .i64 (x0).weight]) (x0) := ho8
    clear ho8
    have sz2 : w1.heap.size ≤ w2.heap.size := h2.size
    have bw2 : Below w.heap.size w w2 := bw1.trans (h2.mono bw1.size)
    have x13 : w2.cell? ⟨w.heap.size, 0, none⟩ = some (.int .i64 (x0).note) := cellB h2 x2
    have x14 : w2.cell? ⟨w.heap.size, 1, none⟩ = some (l0) := cellB h2 x3
    have x15 : w2.cell? ⟨w.heap.size, 2, none⟩ = some (.int .i64 (x0).slack) := cellB h2 x4
    have x16 : w2.cell? ⟨w.heap.size, 3, none⟩ = some (.int .i64 (x0).weight) := cellB h2 x5
    have l17 : w.heap.size < w2.heap.size := by omega
    clear x2 x3 x4 x5 l6
    go_wp2_with fail
    refine (specSlackAfter_any _ (x0) (n1) (n2) _ (OwnAct.rd f11) o0 q0 o1 o2).mono ?_
    rintro e w3 ⟨v18, rfl, ho19, h3⟩
    obtain ⟨a20, c21, rfl⟩ := ho19.form
    have f22 : OwnAct w2.heap.size w3.heap.size w3 (.agg #[.int .i64 (slackV (x0) (n1) (n2)).note, .slice a20 (slackV (x0) (n1) (n2)).levs.length c21, .int .i64 (slackV (x0) (n1) (n2)).slack, .int .i64 (slackV (x0) (n1) (n2)).weight]) (slackV (x0) (n1) (n2)) := ho19
    clear ho19
    have sz3 : w2.heap.size ≤ w3.heap.size := h3.size
    have bw3 : Below w.heap.size w w3 := bw2.trans (h3.mono bw2.size)
    have f24 := f11.mono h3
    have x25 : w3.cell? ⟨w.heap.size, 0, none⟩ = some (.int .i64 (x0).note) := cellB h3 x13
    have x26 : w3.cell? ⟨w.heap.size, 1, none⟩ = some (l0) := cellB h3 x14
    have x27 : w3.cell? ⟨w.heap.size, 2, none⟩ = some (.int .i64 (x0).slack) := cellB h3 x15
    have x28 : w3.cell? ⟨w.heap.size, 3, none⟩ = some (.int .i64 (x0).weight) := cellB h3 x16
    have l29 : w.heap.size < w3.heap.size := by omega
    clear f11 x13 x14 x15 x16 l17
    go_wp2_with fail
    refine (toActK _ (x0) _ (r0.mono (by have hbw := bw3; (repeat (first | with_reducible exact Below.refl _ _ | with_reducible exact hbw | (with_reducible refine Below.setCell ?_ ?_ _; rotate_left; · first | exact Nat.le_refl _ | omega | (simp; done) | (simp; omega)) | (with_reducible refine Below.alloc ?_ ?_ _; rotate_left; · first | exact Nat.le_refl _ | omega | (simp; done) | (simp; omega)) | with_reducible refine below_drewN ?_ _ | with_reducible refine Below.drew ?_)))) q0).mono ?_
    rintro e w4 ⟨v30, rfl, ho31, h4⟩
    obtain ⟨a32, c33, rfl⟩ := ho31.form
    have f34 : OwnAct (w3.heap.size + 1) w4.heap.size w4 (.agg #[.int .i64 (x0).note, .slice a32 (x0).levs.length c33, .int .i64 (x0).slack, .int .i64 (x0).weight]) (x0) := ho31.wide (by simp) (Nat.le_refl _)
    clear ho31
    have st35 : Below w3.heap.size w3 w4 := Below.trans (by (repeat (first | with_reducible exact Below.refl _ _ | with_reducible exact hbw | (with_reducible refine Below.setCell ?_ ?_ _; rotate_left; · first | exact Nat.le_refl _ | omega | (simp; done) | (simp; omega)) | (with_reducible refine Below.alloc ?_ ?_ _; rotate_left; · first | exact Nat.le_refl _ | omega | (simp; done) | (simp; omega)) | with_reducible refine below_drewN ?_ _ | with_reducible refine Below.drew ?_))) (h4.mono (by first | exact Nat.le_refl _ | omega | (simp; done) | (simp; omega)))
    have sz4 : w3.heap.size + 1 ≤ w4.heap.size := by have := h4.size; simp at this ⊢; omega
    have bw4 : Below w.heap.size w w4 := bw3.trans (st35.mono bw3.size)
    have f36 := f24.mono st35
    have f37 := f22.mono st35
    have x38 : w4.cell? ⟨w.heap.size, 0, none⟩ = some (.int .i64 (x0).note) := cellB st35 x25
    have x39 : w4.cell? ⟨w.heap.size, 1, none⟩ = some (l0) := cellB st35 x26
    have x40 : w4.cell? ⟨w.heap.size, 2, none⟩ = some (.int .i64 (x0).slack) := cellB st35 x27
    have x41 : w4.cell? ⟨w.heap.size, 3, none⟩ = some (.int .i64 (x0).weight) := cellB st35 x28
    have l42 : w.heap.size < w4.heap.size := by omega
    have x43 : w4.cell? ⟨w3.heap.size, 0, none⟩ = some (.int .i64 (slackV (x0) (n1) (n2)).note) := cellB h4 (by simp [go_sem])
    have x44 : w4.cell? ⟨w3.heap.size, 1, none⟩ = some (.slice a20 (slackV (x0) (n1) (n2)).levs.length c21) := cellB h4 (by simp [go_sem])
    have x45 : w4.cell? ⟨w3.heap.size, 2, none⟩ = some (.int .i64 (slackV (x0) (n1) (n2)).slack) := cellB h4 (by simp [go_sem])
    have x46 : w4.cell? ⟨w3.heap.size, 3, none⟩ = some (.int .i64 (slackV (x0) (n1) (n2)).weight) := cellB h4 (by simp [go_sem])
    have l47 : w3.heap.size < w4.heap.size := by omega
    clear f24 f22 x25 x26 x27 x28 l29 h4
    go_wp2_with fail
    refine (implSlackAfter_any _ (x0) (n1) (n2) _ ((OwnAct.rd f34).mono (by (repeat (first | with_reducible exact Below.refl _ _ | with_reducible exact hbw | (with_reducible refine Below.setCell ?_ ?_ _; rotate_left; · first | exact Nat.le_refl _ | omega | (simp; done) | (simp; omega)) | (with_reducible refine Below.alloc ?_ ?_ _; rotate_left; · first | exact Nat.le_refl _ | omega | (simp; done) | (simp; omega)) | with_reducible refine below_drewN ?_ _ | with_reducible refine Below.drew ?_)))) o0 q0 o1 o2).mono ?_
    rintro e w5 ⟨v48, rfl, ho49, h5⟩
    obtain ⟨a50, c51, rfl⟩ := ho49.form
    have f52 : OwnAct (w4.heap.size + 1) w5.heap.size w5 (.agg #[.int .i64 (slackV (x0) (n1) (n2)).note, .slice a50 (slackV (x0) (n1) (n2)).levs.length c51, .int .i64 (slackV (x0) (n1) (n2)).slack, .int .i64 (slackV (x0) (n1) (n2)).weight]) (slackV (x0) (n1) (n2)) := ho49.wide (by simp) (Nat.le_refl _)
    clear ho49
    have st53 : Below w4.heap.size w4 w5 := Below.trans (by (repeat (first | with_reducible exact Below.refl _ _ | with_reducible exact hbw | (with_reducible refine Below.setCell ?_ ?_ _; rotate_left; · first | exact Nat.le_refl _ | omega | (simp; done) | (simp; omega)) | (with_reducible refine Below.alloc ?_ ?_ _; rotate_left; · first | exact Nat.le_refl _ | omega | (simp; done) | (simp; omega)) | with_reducible refine below_drewN ?_ _ | with_reducible refine Below.drew ?_))) (h5.mono (by first | exact Nat.le_refl _ | omega | (simp; done) | (simp; omega)))
    have sz5 : w4.heap.size + 1 ≤ w5.heap.size := by have := h5.size; simp at this ⊢; omega
    have bw5 : Below w.heap.size w w5 := bw4.trans (st53.mono bw4.size)
    have f54 := f36.mono st53
    have f55 := f37.mono st53
    have f56 := f34.mono st53
    have x57 : w5.cell? ⟨w.heap.size, 0, none⟩ = some (.int .i64 (x0).note) := cellB st53 x38
    have x58 : w5.cell? ⟨w.heap.size, 1, none⟩ = some (l0) := cellB st53 x39
    have x59 : w5.cell? ⟨w.heap.size, 2, none⟩ = some (.int .i64 (x0).slack) := cellB st53 x40
    have x60 : w5.cell? ⟨w.heap.size, 3, none⟩ = some (.int .i64 (x0).weight) := cellB st53 x41
    have l61 : w.heap.size < w5.heap.size := by omega
    have x62 : w5.cell? ⟨w3.heap.size, 0, none⟩ = some (.int .i64 (slackV (x0) (n1) (n2)).note) := cellB st53 x43
    have x63 : w5.cell? ⟨w3.heap.size, 1, none⟩ = some (.slice a20 (slackV (x0) (n1) (n2)).levs.length c21) := cellB st53 x44
    have x64 : w5.cell? ⟨w3.heap.size, 2, none⟩ = some (.int .i64 (slackV (x0) (n1) (n2)).slack) := cellB st53 x45
    have x65 : w5.cell? ⟨w3.heap.size, 3, none⟩ = some (.int .i64 (slackV (x0) (n1) (n2)).weight) := cellB st53 x46
    have l66 : w3.heap.size < w5.heap.size := by omega
    have x67 : w5.cell? ⟨w4.heap.size, 0, none⟩ = some (.int .i64 (x0).note) := cellB h5 (by simp [go_sem])
    have x68 : w5.cell? ⟨w4.heap.size, 1, none⟩ = some (.slice a32 (x0).levs.length c33) := cellB h5 (by simp [go_sem])
    have x69 : w5.cell? ⟨w4.heap.size, 2, none⟩ = some (.int .i64 (x0).slack) := cellB h5 (by simp [go_sem])
    have x70 : w5.cell? ⟨w4.heap.size, 3, none⟩ = some (.int .i64 (x0).weight) := cellB h5 (by simp [go_sem])
    have l71 : w4.heap.size < w5.heap.size := by omega
    clear f36 f37 f34 x38 x39 x40 x41 l42 x43 x44 x45 x46 l47 h5
    go_wp2_with fail
    refine (eqActK _ _ (slackV (x0) (n1) (n2)) _ ((OwnAct.rd f52).mono (by (repeat (first | with_reducible exact Below.refl _ _ | with_reducible exact hbw | (with_reducible refine Below.setCell ?_ ?_ _; rotate_left; · first | exact Nat.le_refl _ | omega | (simp; done) | (simp; omega)) | (with_reducible refine Below.alloc ?_ ?_ _; rotate_left; · first | exact Nat.le_refl _ | omega | (simp; done) | (simp; omega)) | with_reducible refine below_drewN ?_ _ | with_reducible refine Below.drew ?_)))) ((OwnAct.rd f55).mono (by (repeat (first | with_reducible exact Below.refl _ _ | with_reducible exact hbw | (with_reducible refine Below.setCell ?_ ?_ _; rotate_left; · first | exact Nat.le_refl _ | omega | (simp; done) | (simp; omega)) | (with_reducible refine Below.alloc ?_ ?_ _; rotate_left; · first | exact Nat.le_refl _ | omega | (simp; done) | (simp; omega)) | with_reducible refine below_drewN ?_ _ | with_reducible refine Below.drew ?_))))).mono ?_
    rintro e w6 ⟨rfl, h6⟩
    have st72 : Below w5.heap.size w5 w6 := Below.trans (by (repeat (first | with_reducible exact Below.refl _ _ | with_reducible exact hbw | (with_reducible refine Below.setCell ?_ ?_ _; rotate_left; · first | exact Nat.le_refl _ | omega | (simp; done) | (simp; omega)) | (with_reducible refine Below.alloc ?_ ?_ _; rotate_left; · first | exact Nat.le_refl _ | omega | (simp; done) | (simp; omega)) | with_reducible refine below_drewN ?_ _ | with_reducible refine Below.drew ?_))) (h6.mono (by first | exact Nat.le_refl _ | omega | (simp; done) | (simp; omega)))
    have sz6 : w5.heap.size + 1 ≤ w6.heap.size := by have := h6.size; simp at this ⊢; omega
    have bw6 : Below w.heap.size w w6 := bw5.trans (st72.mono bw5.size)
    have f73 := f54.mono st72
    have f74 := f55.mono st72
    have f75 := f56.mono st72
    have f76 := f52.mono st72
    have x77 : w6.cell? ⟨w.heap.size, 0, none⟩ = some (.int .i64 (x0).note) := cellB st72 x57
    have x78 : w6.cell? ⟨w.heap.size, 1, none⟩ = some (l0) := cellB st72 x58
    have x79 : w6.cell? ⟨w.heap.size, 2, none⟩ = some (.int .i64 (x0).slack) := cellB st72 x59
    have x80 : w6.cell? ⟨w.heap.size, 3, none⟩ = some (.int .i64 (x0).weight) := cellB st72 x60
    have l81 : w.heap.size < w6.heap.size := by omega
    have x82 : w6.cell? ⟨w3.heap.size, 0, none⟩ = some (.int .i64 (slackV (x0) (n1) (n2)).note) := cellB st72 x62
    have x83 : w6.cell? ⟨w3.heap.size, 1, none⟩ = some (.slice a20 (slackV (x0) (n1) (n2)).levs.length c21) := cellB st72 x63
    have x84 : w6.cell? ⟨w3.heap.size, 2, none⟩ = some (.int .i64 (slackV (x0) (n1) (n2)).slack) := cellB st72 x64
    have x85 : w6.cell? ⟨w3.heap.size, 3, none⟩ = some (.int .i64 (slackV (x0) (n1) (n2)).weight) := cellB st72 x65
    have l86 : w3.heap.size < w6.heap.size := by omega
    have x87 : w6.cell? ⟨w4.heap.size, 0, none⟩ = some (.int .i64 (x0).note) := cellB st72 x67
    have x88 : w6.cell? ⟨w4.heap.size, 1, none⟩ = some (.slice a32 (x0).levs.length c33) := cellB st72 x68
    have x89 : w6.cell? ⟨w4.heap.size, 2, none⟩ = some (.int .i64 (x0).slack) := cellB st72 x69
    have x90 : w6.cell? ⟨w4.heap.size, 3, none⟩ = some (.int .i64 (x0).weight) := cellB st72 x70
    have l91 : w4.heap.size < w6.heap.size := by omega
    have x92 : w6.cell? ⟨w5.heap.size, 0, none⟩ = some (.int .i64 (slackV (x0) (n1) (n2)).note) := cellB h6 (by simp [go_sem])
    have x93 : w6.cell? ⟨w5.heap.size, 1, none⟩ = some (.slice a50 (slackV (x0) (n1) (n2)).levs.length c51) := cellB h6 (by simp [go_sem])
    have x94 : w6.cell? ⟨w5.heap.size, 2, none⟩ = some (.int .i64 (slackV (x0) (n1) (n2)).slack) := cellB h6 (by simp [go_sem])
    have x95 : w6.cell? ⟨w5.heap.size, 3, none⟩ = some (.int .i64 (slackV (x0) (n1) (n2)).weight) := cellB h6 (by simp [go_sem])
    have l96 : w5.heap.size < w6.heap.size := by omega
    clear f54 f55 f56 f52 x57 x58 x59 x60 l61 x62 x63 x64 x65 l66 x67 x68 x69 x70 l71 h6
    go_wp2_with fail
    refine wp_region_ord [(0, true), (1, true), (2, false), (3, false), (4, true)] (none) (by kernel_rfl) (by kernel_rfl) ?_
    (repeat (with_reducible refine wpOrd_soft (fun K hK => ?_); simp only [List.getElem?_toArray, List.getElem?_cons_zero, List.getElem?_cons_succ]; first | (go_simp; refine hK _ ?_) | (simp only [undef]; go_simp; refine hK _ ?_); clear hK K))
    (with_reducible refine wpOrd_hard ?_; simp only [List.getElem?_toArray, List.getElem?_cons_zero, List.getElem?_cons_succ])
    go_wp2_with fail
    refine (toActK _ (x0) _ (r0.mono (by have hbw := bw6; (repeat (first | with_reducible exact Below.refl _ _ | with_reducible exact hbw | (with_reducible refine Below.setCell ?_ ?_ _; rotate_left; · first | exact Nat.le_refl _ | omega | (simp; done) | (simp; omega)) | (with_reducible refine Below.alloc ?_ ?_ _; rotate_left; · first | exact Nat.le_refl _ | omega | (simp; done) | (simp; omega)) | with_reducible refine below_drewN ?_ _ | with_reducible refine Below.drew ?_)))) q0).mono ?_
    rintro e w7 ⟨v97, rfl, ho98, h7⟩
    obtain ⟨a99, c100, rfl⟩ := ho98.form
    have f101 : OwnAct w6.heap.size w7.heap.size w7 (.agg #[.int .i64 (x0).note, .slice a99 (x0).levs.length c100, .int .i64 (x0).slack, .int .i64 (x0).weight]) (x0) := ho98
    clear ho98
    have st102 : Below w6.heap.size w6 w7 := undrew h7
    have sz7 : w6.heap.size ≤ w7.heap.size := st102.size
    have bw7 : Below w.heap.size w w7 := bw6.trans (st102.mono bw6.size)
    have f103 := f73.mono st102
    have f104 := f74.mono st102
    have f105 := f75.mono st102
    have f106 := f76.mono st102
    have x107 : w7.cell? ⟨w.heap.size, 0, none⟩ = some (.int .i64 (x0).note) := cellB st102 x77
    have x108 : w7.cell? ⟨w.heap.size, 1, none⟩ = some (l0) := cellB st102 x78
    have x109 : w7.cell? ⟨w.heap.size, 2, none⟩ = some (.int .i64 (x0).slack) := cellB st102 x79
    have x110 : w7.cell? ⟨w.heap.size, 3, none⟩ = some (.int .i64 (x0).weight) := cellB st102 x80
    have l111 : w.heap.size < w7.heap.size := by omega
    have x112 : w7.cell? ⟨w3.heap.size, 0, none⟩ = some (.int .i64 (slackV (x0) (n1) (n2)).note) := cellB st102 x82
    have x113 : w7.cell? ⟨w3.heap.size, 1, none⟩ = some (.slice a20 (slackV (x0) (n1) (n2)).levs.length c21) := cellB st102 x83
    have x114 : w7.cell? ⟨w3.heap.size, 2, none⟩ = some (.int .i64 (slackV (x0) (n1) (n2)).slack) := cellB st102 x84
    have x115 : w7.cell? ⟨w3.heap.size, 3, none⟩ = some (.int .i64 (slackV (x0) (n1) (n2)).weight) := cellB st102 x85
    have l116 : w3.heap.size < w7.heap.size := by omega
    have x117 : w7.cell? ⟨w4.heap.size, 0, none⟩ = some (.int .i64 (x0).note) := cellB st102 x87
    have x118 : w7.cell? ⟨w4.heap.size, 1, none⟩ = some (.slice a32 (x0).levs.length c33) := cellB st102 x88
    have x119 : w7.cell? ⟨w4.heap.size, 2, none⟩ = some (.int .i64 (x0).slack) := cellB st102 x89
    have x120 : w7.cell? ⟨w4.heap.size, 3, none⟩ = some (.int .i64 (x0).weight) := cellB st102 x90
    have l121 : w4.heap.size < w7.heap.size := by omega
    have x122 : w7.cell? ⟨w5.heap.size, 0, none⟩ = some (.int .i64 (slackV (x0) (n1) (n2)).note) := cellB st102 x92
    have x123 : w7.cell? ⟨w5.heap.size, 1, none⟩ = some (.slice a50 (slackV (x0) (n1) (n2)).levs.length c51) := cellB st102 x93
    have x124 : w7.cell? ⟨w5.heap.size, 2, none⟩ = some (.int .i64 (slackV (x0) (n1) (n2)).slack) := cellB st102 x94
    have x125 : w7.cell? ⟨w5.heap.size, 3, none⟩ = some (.int .i64 (slackV (x0) (n1) (n2)).weight) := cellB st102 x95
    have l126 : w5.heap.size < w7.heap.size := by omega
    clear f73 f74 f75 f76 x77 x78 x79 x80 l81 x82 x83 x84 x85 l86 x87 x88 x89 x90 l91 x92 x93 x94 x95 l96 h7
    go_wp2_with fail
    refine ⟨grown_of_below st102, ?_⟩
    (repeat (with_reducible refine wpOrd_soft (fun K hK => ?_); simp only [List.getElem?_toArray, List.getElem?_cons_zero, List.getElem?_cons_succ]; first | (go_simp; refine hK _ ?_) | (simp only [undef]; go_simp; refine hK _ ?_); clear hK K))
    (with_reducible refine wpOrd_hard ?_; simp only [List.getElem?_toArray, List.getElem?_cons_zero, List.getElem?_cons_succ])
    go_wp2_with fail
    refine (eqActK _ _ (x0) _ (OwnAct.rd f105) (OwnAct.rd f101)).mono ?_
    rintro e w8 ⟨rfl, h8⟩
    have sz8 : w7.heap.size ≤ w8.heap.size := h8.size
    have bw8 : Below w.heap.size w w8 := bw7.trans (h8.mono bw7.size)
    have f128 := f103.mono h8
    have f129 := f104.mono h8
    have f130 := f105.mono h8
    have f131 := f106.mono h8
    have f132 := f101.mono h8
    have x133 : w8.cell? ⟨w.heap.size, 0, none⟩ = some (.int .i64 (x0).note) := cellB h8 x107
    have x134 : w8.cell? ⟨w.heap.size, 1, none⟩ = some (l0) := cellB h8 x108
    have x135 : w8.cell? ⟨w.heap.size, 2, none⟩ = some (.int .i64 (x0).slack) := cellB h8 x109
    have x136 : w8.cell? ⟨w.heap.size, 3, none⟩ = some (.int .i64 (x0).weight) := cellB h8 x110
    have l137 : w.heap.size < w8.heap.size := by omega
    have x138 : w8.cell? ⟨w3.heap.size, 0, none⟩ = some (.int .i64 (slackV (x0) (n1) (n2)).note) := cellB h8 x112
    have x139 : w8.cell? ⟨w3.heap.size, 1, none⟩ = some (.slice a20 (slackV (x0) (n1) (n2)).levs.length c21) := cellB h8 x113
    have x140 : w8.cell? ⟨w3.heap.size, 2, none⟩ = some (.int .i64 (slackV (x0) (n1) (n2)).slack) := cellB h8 x114
    have x141 : w8.cell? ⟨w3.heap.size, 3, none⟩ = some (.int .i64 (slackV (x0) (n1) (n2)).weight) := cellB h8 x115
    have l142 : w3.heap.size < w8.heap.size := by omega
    have x143 : w8.cell? ⟨w4.heap.size, 0, none⟩ = some (.int .i64 (x0).note) := cellB h8 x117
    have x144 : w8.cell? ⟨w4.heap.size, 1, none⟩ = some (.slice a32 (x0).levs.length c33) := cellB h8 x118
    have x145 : w8.cell? ⟨w4.heap.size, 2, none⟩ = some (.int .i64 (x0).slack) := cellB h8 x119
    have x146 : w8.cell? ⟨w4.heap.size, 3, none⟩ = some (.int .i64 (x0).weight) := cellB h8 x120
    have l147 : w4.heap.size < w8.heap.size := by omega
    have x148 : w8.cell? ⟨w5.heap.size, 0, none⟩ = some (.int .i64 (slackV (x0) (n1) (n2)).note) := cellB h8 x122
    have x149 : w8.cell? ⟨w5.heap.size, 1, none⟩ = some (.slice a50 (slackV (x0) (n1) (n2)).levs.length c51) := cellB h8 x123
    have x150 : w8.cell? ⟨w5.heap.size, 2, none⟩ = some (.int .i64 (slackV (x0) (n1) (n2)).slack) := cellB h8 x124
    have x151 : w8.cell? ⟨w5.heap.size, 3, none⟩ = some (.int .i64 (slackV (x0) (n1) (n2)).weight) := cellB h8 x125
    have l152 : w5.heap.size < w8.heap.size := by omega
    clear f103 f104 f105 f106 f101 x107 x108 x109 x110 l111 x112 x113 x114 x115 l116 x117 x118 x119 x120 l121 x122 x123 x124 x125 l126
    have rg153 : Below w6.heap.size w6 w8 := st102.trans (h8.mono st102.size)
    go_wp2_with fail
    refine ⟨grown_of_below rg153, ?_⟩
    (repeat (with_reducible refine wpOrd_soft (fun K hK => ?_); simp only [List.getElem?_toArray, List.getElem?_cons_zero, List.getElem?_cons_succ]; first | (go_simp; refine hK _ ?_) | (simp only [undef]; go_simp; refine hK _ ?_); clear hK K))
    (with_reducible refine wpOrd_nil ?_); refine NoPanic.normal ?_
    go_wp2_with fail
    refine (markActK _ _ _ (x0) (1) _ f130 (by omega) (by have := q0; omega)).mono ?_
    rintro e w9 ⟨rfl, f154, t9⟩
    have sz9 : w8.heap.size ≤ w9.heap.size := t9.size
    have bw9 : Below w.heap.size w w9 := t9.below bw8 (by omega) (by omega)
    have f156 := f128.touch t9 (by omega)
    have f157 := f129.touch t9 (by omega)
    have f159 := f131.touch t9 (by omega)
    have f160 := f132.touch t9 (by omega)
    have x161 : w9.cell? ⟨w.heap.size, 0, none⟩ = some (.int .i64 (x0).note) := cellT t9 x133 (by simp only; omega)
    have x162 : w9.cell? ⟨w.heap.size, 1, none⟩ = some (l0) := cellT t9 x134 (by simp only; omega)
    have x163 : w9.cell? ⟨w.heap.size, 2, none⟩ = some (.int .i64 (x0).slack) := cellT t9 x135 (by simp only; omega)
    have x164 : w9.cell? ⟨w.heap.size, 3, none⟩ = some (.int .i64 (x0).weight) := cellT t9 x136 (by simp only; omega)
    have l165 : w.heap.size < w9.heap.size := by omega
    have x166 : w9.cell? ⟨w3.heap.size, 0, none⟩ = some (.int .i64 (slackV (x0) (n1) (n2)).note) := cellT t9 x138 (by simp only; omega)
    have x167 : w9.cell? ⟨w3.heap.size, 1, none⟩ = some (.slice a20 (slackV (x0) (n1) (n2)).levs.length c21) := cellT t9 x139 (by simp only; omega)
    have x168 : w9.cell? ⟨w3.heap.size, 2, none⟩ = some (.int .i64 (slackV (x0) (n1) (n2)).slack) := cellT t9 x140 (by simp only; omega)
    have x169 : w9.cell? ⟨w3.heap.size, 3, none⟩ = some (.int .i64 (slackV (x0) (n1) (n2)).weight) := cellT t9 x141 (by simp only; omega)
    have l170 : w3.heap.size < w9.heap.size := by omega
    have x171 : w9.cell? ⟨w4.heap.size, 0, none⟩ = some (.int .i64 (x0).note) := cellT t9 x143 (by simp only; omega)
    have x172 : w9.cell? ⟨w4.heap.size, 1, none⟩ = some (.slice a32 (x0).levs.length c33) := cellT t9 x144 (by simp only; omega)
    have x173 : w9.cell? ⟨w4.heap.size, 2, none⟩ = some (.int .i64 (x0).slack) := cellT t9 x145 (by simp only; omega)
    have x174 : w9.cell? ⟨w4.heap.size, 3, none⟩ = some (.int .i64 (x0).weight) := cellT t9 x146 (by simp only; omega)
    have l175 : w4.heap.size < w9.heap.size := by omega
    have x176 : w9.cell? ⟨w5.heap.size, 0, none⟩ = some (.int .i64 (slackV (x0) (n1) (n2)).note) := cellT t9 x148 (by simp only; omega)
    have x177 : w9.cell? ⟨w5.heap.size, 1, none⟩ = some (.slice a50 (slackV (x0) (n1) (n2)).levs.length c51) := cellT t9 x149 (by simp only; omega)
    have x178 : w9.cell? ⟨w5.heap.size, 2, none⟩ = some (.int .i64 (slackV (x0) (n1) (n2)).slack) := cellT t9 x150 (by simp only; omega)
    have x179 : w9.cell? ⟨w5.heap.size, 3, none⟩ = some (.int .i64 (slackV (x0) (n1) (n2)).weight) := cellT t9 x151 (by simp only; omega)
    have l180 : w5.heap.size < w9.heap.size := by omega
    clear f128 f129 f131 f132 x133 x134 x135 x136 l137 x138 x139 x140 x141 l142 x143 x144 x145 x146 l147 x148 x149 x150 x151 l152
    clear f130
    go_wp2_with fail
    refine (eqActK _ _ (slackV (x0) (n1) (n2)) _ (OwnAct.rd f159) (OwnAct.rd f157)).mono ?_
    rintro e w10 ⟨rfl, h10⟩
    have sz10 : w9.heap.size ≤ w10.heap.size := h10.size
    have bw10 : Below w.heap.size w w10 := bw9.trans (h10.mono bw9.size)
    have f182 := f156.mono h10
    have f183 := f157.mono h10
    have f184 := f154.mono h10
    have f185 := f159.mono h10
    have f186 := f160.mono h10
    have x187 : w10.cell? ⟨w.heap.size, 0, none⟩ = some (.int .i64 (x0).note) := cellB h10 x161
    have x188 : w10.cell? ⟨w.heap.size, 1, none⟩ = some (l0) := cellB h10 x162
    have x189 : w10.cell? ⟨w.heap.size, 2, none⟩ = some (.int .i64 (x0).slack) := cellB h10 x163
    have x190 : w10.cell? ⟨w.heap.size, 3, none⟩ = some (.int .i64 (x0).weight) := cellB h10 x164
    have l191 : w.heap.size < w10.heap.size := by omega
    have x192 : w10.cell? ⟨w3.heap.size, 0, none⟩ = some (.int .i64 (slackV (x0) (n1) (n2)).note) := cellB h10 x166
    have x193 : w10.cell? ⟨w3.heap.size, 1, none⟩ = some (.slice a20 (slackV (x0) (n1) (n2)).levs.length c21) := cellB h10 x167
    have x194 : w10.cell? ⟨w3.heap.size, 2, none⟩ = some (.int .i64 (slackV (x0) (n1) (n2)).slack) := cellB h10 x168
    have x195 : w10.cell? ⟨w3.heap.size, 3, none⟩ = some (.int .i64 (slackV (x0) (n1) (n2)).weight) := cellB h10 x169
    have l196 : w3.heap.size < w10.heap.size := by omega
    have x197 : w10.cell? ⟨w4.heap.size, 0, none⟩ = some (.int .i64 (x0).note) := cellB h10 x171
    have x198 : w10.cell? ⟨w4.heap.size, 1, none⟩ = some (.slice a32 (x0).levs.length c33) := cellB h10 x172
    have x199 : w10.cell? ⟨w4.heap.size, 2, none⟩ = some (.int .i64 (x0).slack) := cellB h10 x173
    have x200 : w10.cell? ⟨w4.heap.size, 3, none⟩ = some (.int .i64 (x0).weight) := cellB h10 x174
    have l201 : w4.heap.size < w10.heap.size := by omega
    have x202 : w10.cell? ⟨w5.heap.size, 0, none⟩ = some (.int .i64 (slackV (x0) (n1) (n2)).note) := cellB h10 x176
    have x203 : w10.cell? ⟨w5.heap.size, 1, none⟩ = some (.slice a50 (slackV (x0) (n1) (n2)).levs.length c51) := cellB h10 x177
    have x204 : w10.cell? ⟨w5.heap.size, 2, none⟩ = some (.int .i64 (slackV (x0) (n1) (n2)).slack) := cellB h10 x178
    have x205 : w10.cell? ⟨w5.heap.size, 3, none⟩ = some (.int .i64 (slackV (x0) (n1) (n2)).weight) := cellB h10 x179
    have l206 : w5.heap.size < w10.heap.size := by omega
    clear f156 f157 f154 f159 f160 x161 x162 x163 x164 l165 x166 x167 x168 x169 l170 x171 x172 x173 x174 l175 x176 x177 x178 x179 l180
    go_wp2_with fail
    refine (markActK _ _ _ (slackV (x0) (n1) (n2)) (1) _ f185 (by omega) (by have := hbd; omega)).mono ?_
    rintro e w11 ⟨rfl, f207, t11⟩
    have sz11 : w10.heap.size ≤ w11.heap.size := t11.size
    have bw11 : Below w.heap.size w w11 := t11.below bw10 (by omega) (by omega)
    have f209 := f182.touch t11 (by omega)
    have f210 := f183.touch t11 (by omega)
    have f211 := f184.touch t11 (by omega)
    have f213 := f186.touch t11 (by omega)
    have x214 : w11.cell? ⟨w.heap.size, 0, none⟩ = some (.int .i64 (x0).note) := cellT t11 x187 (by simp only; omega)
    have x215 : w11.cell? ⟨w.heap.size, 1, none⟩ = some (l0) := cellT t11 x188 (by simp only; omega)
    have x216 : w11.cell? ⟨w.heap.size, 2, none⟩ = some (.int .i64 (x0).slack) := cellT t11 x189 (by simp only; omega)
    have x217 : w11.cell? ⟨w.heap.size, 3, none⟩ = some (.int .i64 (x0).weight) := cellT t11 x190 (by simp only; omega)
    have l218 : w.heap.size < w11.heap.size := by omega
    have x219 : w11.cell? ⟨w3.heap.size, 0, none⟩ = some (.int .i64 (slackV (x0) (n1) (n2)).note) := cellT t11 x192 (by simp only; omega)
    have x220 : w11.cell? ⟨w3.heap.size, 1, none⟩ = some (.slice a20 (slackV (x0) (n1) (n2)).levs.length c21) := cellT t11 x193 (by simp only; omega)
    have x221 : w11.cell? ⟨w3.heap.size, 2, none⟩ = some (.int .i64 (slackV (x0) (n1) (n2)).slack) := cellT t11 x194 (by simp only; omega)
    have x222 : w11.cell? ⟨w3.heap.size, 3, none⟩ = some (.int .i64 (slackV (x0) (n1) (n2)).weight) := cellT t11 x195 (by simp only; omega)
    have l223 : w3.heap.size < w11.heap.size := by omega
    have x224 : w11.cell? ⟨w4.heap.size, 0, none⟩ = some (.int .i64 (x0).note) := cellT t11 x197 (by simp only; omega)
    have x225 : w11.cell? ⟨w4.heap.size, 1, none⟩ = some (.slice a32 (x0).levs.length c33) := cellT t11 x198 (by simp only; omega)
    have x226 : w11.cell? ⟨w4.heap.size, 2, none⟩ = some (.int .i64 (x0).slack) := cellT t11 x199 (by simp only; omega)
    have x227 : w11.cell? ⟨w4.heap.size, 3, none⟩ = some (.int .i64 (x0).weight) := cellT t11 x200 (by simp only; omega)
    have l228 : w4.heap.size < w11.heap.size := by omega
    have x229 : w11.cell? ⟨w5.heap.size, 0, none⟩ = some (.int .i64 (slackV (x0) (n1) (n2)).note) := cellT t11 x202 (by simp only; omega)
    have x230 : w11.cell? ⟨w5.heap.size, 1, none⟩ = some (.slice a50 (slackV (x0) (n1) (n2)).levs.length c51) := cellT t11 x203 (by simp only; omega)
    have x231 : w11.cell? ⟨w5.heap.size, 2, none⟩ = some (.int .i64 (slackV (x0) (n1) (n2)).slack) := cellT t11 x204 (by simp only; omega)
    have x232 : w11.cell? ⟨w5.heap.size, 3, none⟩ = some (.int .i64 (slackV (x0) (n1) (n2)).weight) := cellT t11 x205 (by simp only; omega)
    have l233 : w5.heap.size < w11.heap.size := by omega
    clear f182 f183 f184 f186 x187 x188 x189 x190 l191 x192 x193 x194 x195 l196 x197 x198 x199 x200 l201 x202 x203 x204 x205 l206
    clear f185
    go_wp2_with fail
    refine (heldActK _ _ _ (slackV (x0) (n1) (n2)) (1) _ f207 (by omega) (by have := hbd; omega)).mono ?_
    rintro e w12 ⟨rfl, h12⟩
    have sz12 : w11.heap.size ≤ w12.heap.size := h12.size
    have bw12 : Below w.heap.size w w12 := bw11.trans (h12.mono bw11.size)
    have f235 := f209.mono h12
    have f236 := f210.mono h12
    have f237 := f211.mono h12
    have f238 := f207.mono h12
    have f239 := f213.mono h12
    have x240 : w12.cell? ⟨w.heap.size, 0, none⟩ = some (.int .i64 (x0).note) := cellB h12 x214
    have x241 : w12.cell? ⟨w.heap.size, 1, none⟩ = some (l0) := cellB h12 x215
    have x242 : w12.cell? ⟨w.heap.size, 2, none⟩ = some (.int .i64 (x0).slack) := cellB h12 x216
    have x243 : w12.cell? ⟨w.heap.size, 3, none⟩ = some (.int .i64 (x0).weight) := cellB h12 x217
    have l244 : w.heap.size < w12.heap.size := by omega
    have x245 : w12.cell? ⟨w3.heap.size, 0, none⟩ = some (.int .i64 (slackV (x0) (n1) (n2)).note) := cellB h12 x219
    have x246 : w12.cell? ⟨w3.heap.size, 1, none⟩ = some (.slice a20 (slackV (x0) (n1) (n2)).levs.length c21) := cellB h12 x220
    have x247 : w12.cell? ⟨w3.heap.size, 2, none⟩ = some (.int .i64 (slackV (x0) (n1) (n2)).slack) := cellB h12 x221
    have x248 : w12.cell? ⟨w3.heap.size, 3, none⟩ = some (.int .i64 (slackV (x0) (n1) (n2)).weight) := cellB h12 x222
    have l249 : w3.heap.size < w12.heap.size := by omega
    have x250 : w12.cell? ⟨w4.heap.size, 0, none⟩ = some (.int .i64 (x0).note) := cellB h12 x224
    have x251 : w12.cell? ⟨w4.heap.size, 1, none⟩ = some (.slice a32 (x0).levs.length c33) := cellB h12 x225
    have x252 : w12.cell? ⟨w4.heap.size, 2, none⟩ = some (.int .i64 (x0).slack) := cellB h12 x226
    have x253 : w12.cell? ⟨w4.heap.size, 3, none⟩ = some (.int .i64 (x0).weight) := cellB h12 x227
    have l254 : w4.heap.size < w12.heap.size := by omega
    have x255 : w12.cell? ⟨w5.heap.size, 0, none⟩ = some (.int .i64 (slackV (x0) (n1) (n2)).note) := cellB h12 x229
    have x256 : w12.cell? ⟨w5.heap.size, 1, none⟩ = some (.slice a50 (slackV (x0) (n1) (n2)).levs.length c51) := cellB h12 x230
    have x257 : w12.cell? ⟨w5.heap.size, 2, none⟩ = some (.int .i64 (slackV (x0) (n1) (n2)).slack) := cellB h12 x231
    have x258 : w12.cell? ⟨w5.heap.size, 3, none⟩ = some (.int .i64 (slackV (x0) (n1) (n2)).weight) := cellB h12 x232
    have l259 : w5.heap.size < w12.heap.size := by omega
    clear f209 f210 f211 f207 f213 x214 x215 x216 x217 l218 x219 x220 x221 x222 l223 x224 x225 x226 x227 l228 x229 x230 x231 x232 l233
    go_wp2_with fail
    refine (toActK _ (x0) _ (r0.mono (by have hbw := bw12; (repeat (first | with_reducible exact Below.refl _ _ | with_reducible exact hbw | (with_reducible refine Below.setCell ?_ ?_ _; rotate_left; · first | exact Nat.le_refl _ | omega | (simp; done) | (simp; omega)) | (with_reducible refine Below.alloc ?_ ?_ _; rotate_left; · first | exact Nat.le_refl _ | omega | (simp; done) | (simp; omega)) | with_reducible refine below_drewN ?_ _ | with_reducible refine Below.drew ?_)))) q0).mono ?_
    rintro e w13 ⟨v260, rfl, ho261, h13⟩
    obtain ⟨a262, c263, rfl⟩ := ho261.form
    have f264 : OwnAct w12.heap.size w13.heap.size w13 (.agg #[.int .i64 (x0).note, .slice a262 (x0).levs.length c263, .int .i64 (x0).slack, .int .i64 (x0).weight]) (x0) := ho261
    clear ho261
    have sz13 : w12.heap.size ≤ w13.heap.size := h13.size
    have bw13 : Below w.heap.size w w13 := bw12.trans (h13.mono bw12.size)
    have f266 := f235.mono h13
    have f267 := f236.mono h13
    have f268 := f237.mono h13
    have f269 := f238.mono h13
    have f270 := f239.mono h13
    have x271 : w13.cell? ⟨w.heap.size, 0, none⟩ = some (.int .i64 (x0).note) := cellB h13 x240
    have x272 : w13.cell? ⟨w.heap.size, 1, none⟩ = some (l0) := cellB h13 x241
    have x273 : w13.cell? ⟨w.heap.size, 2, none⟩ = some (.int .i64 (x0).slack) := cellB h13 x242
    have x274 : w13.cell? ⟨w.heap.size, 3, none⟩ = some (.int .i64 (x0).weight) := cellB h13 x243
    have l275 : w.heap.size < w13.heap.size := by omega
    have x276 : w13.cell? ⟨w3.heap.size, 0, none⟩ = some (.int .i64 (slackV (x0) (n1) (n2)).note) := cellB h13 x245
    have x277 : w13.cell? ⟨w3.heap.size, 1, none⟩ = some (.slice a20 (slackV (x0) (n1) (n2)).levs.length c21) := cellB h13 x246
    have x278 : w13.cell? ⟨w3.heap.size, 2, none⟩ = some (.int .i64 (slackV (x0) (n1) (n2)).slack) := cellB h13 x247
    have x279 : w13.cell? ⟨w3.heap.size, 3, none⟩ = some (.int .i64 (slackV (x0) (n1) (n2)).weight) := cellB h13 x248
    have l280 : w3.heap.size < w13.heap.size := by omega
    have x281 : w13.cell? ⟨w4.heap.size, 0, none⟩ = some (.int .i64 (x0).note) := cellB h13 x250
    have x282 : w13.cell? ⟨w4.heap.size, 1, none⟩ = some (.slice a32 (x0).levs.length c33) := cellB h13 x251
    have x283 : w13.cell? ⟨w4.heap.size, 2, none⟩ = some (.int .i64 (x0).slack) := cellB h13 x252
    have x284 : w13.cell? ⟨w4.heap.size, 3, none⟩ = some (.int .i64 (x0).weight) := cellB h13 x253
    have l285 : w4.heap.size < w13.heap.size := by omega
    have x286 : w13.cell? ⟨w5.heap.size, 0, none⟩ = some (.int .i64 (slackV (x0) (n1) (n2)).note) := cellB h13 x255
    have x287 : w13.cell? ⟨w5.heap.size, 1, none⟩ = some (.slice a50 (slackV (x0) (n1) (n2)).levs.length c51) := cellB h13 x256
    have x288 : w13.cell? ⟨w5.heap.size, 2, none⟩ = some (.int .i64 (slackV (x0) (n1) (n2)).slack) := cellB h13 x257
    have x289 : w13.cell? ⟨w5.heap.size, 3, none⟩ = some (.int .i64 (slackV (x0) (n1) (n2)).weight) := cellB h13 x258
    have l290 : w5.heap.size < w13.heap.size := by omega
    clear f235 f236 f237 f238 f239 x240 x241 x242 x243 l244 x245 x246 x247 x248 l249 x250 x251 x252 x253 l254 x255 x256 x257 x258 l259
    go_wp2_with fail
    refine (implSlackAfter_any _ (x0) (n1) (n2) _ (OwnAct.rd f264) o0 q0 o1 o2).mono ?_
    rintro e w14 ⟨v291, rfl, ho292, h14⟩
    obtain ⟨a293, c294, rfl⟩ := ho292.form
    have f295 : OwnAct w13.heap.size w14.heap.size w14 (.agg #[.int .i64 (slackV (x0) (n1) (n2)).note, .slice a293 (slackV (x0) (n1) (n2)).levs.length c294, .int .i64 (slackV (x0) (n1) (n2)).slack, .int .i64 (slackV (x0) (n1) (n2)).weight]) (slackV (x0) (n1) (n2)) := ho292
    clear ho292
    have sz14 : w13.heap.size ≤ w14.heap.size := h14.size
    have bw14 : Below w.heap.size w w14 := bw13.trans (h14.mono bw13.size)
    have f297 := f266.mono h14
    have f298 := f267.mono h14
    have f299 := f268.mono h14
    have f300 := f269.mono h14
    have f301 := f270.mono h14
    have f302 := f264.mono h14
    have x303 : w14.cell? ⟨w.heap.size, 0, none⟩ = some (.int .i64 (x0).note) := cellB h14 x271
    have x304 : w14.cell? ⟨w.heap.size, 1, none⟩ = some (l0) := cellB h14 x272
    have x305 : w14.cell? ⟨w.heap.size, 2, none⟩ = some (.int .i64 (x0).slack) := cellB h14 x273
    have x306 : w14.cell? ⟨w.heap.size, 3, none⟩ = some (.int .i64 (x0).weight) := cellB h14 x274
    have l307 : w.heap.size < w14.heap.size := by omega
    have x308 : w14.cell? ⟨w3.heap.size, 0, none⟩ = some (.int .i64 (slackV (x0) (n1) (n2)).note) := cellB h14 x276
    have x309 : w14.cell? ⟨w3.heap.size, 1, none⟩ = some (.slice a20 (slackV (x0) (n1) (n2)).levs.length c21) := cellB h14 x277
    have x310 : w14.cell? ⟨w3.heap.size, 2, none⟩ = some (.int .i64 (slackV (x0) (n1) (n2)).slack) := cellB h14 x278
    have x311 : w14.cell? ⟨w3.heap.size, 3, none⟩ = some (.int .i64 (slackV (x0) (n1) (n2)).weight) := cellB h14 x279
    have l312 : w3.heap.size < w14.heap.size := by omega
    have x313 : w14.cell? ⟨w4.heap.size, 0, none⟩ = some (.int .i64 (x0).note) := cellB h14 x281
    have x314 : w14.cell? ⟨w4.heap.size, 1, none⟩ = some (.slice a32 (x0).levs.length c33) := cellB h14 x282
    have x315 : w14.cell? ⟨w4.heap.size, 2, none⟩ = some (.int .i64 (x0).slack) := cellB h14 x283
    have x316 : w14.cell? ⟨w4.heap.size, 3, none⟩ = some (.int .i64 (x0).weight) := cellB h14 x284
    have l317 : w4.heap.size < w14.heap.size := by omega
    have x318 : w14.cell? ⟨w5.heap.size, 0, none⟩ = some (.int .i64 (slackV (x0) (n1) (n2)).note) := cellB h14 x286
    have x319 : w14.cell? ⟨w5.heap.size, 1, none⟩ = some (.slice a50 (slackV (x0) (n1) (n2)).levs.length c51) := cellB h14 x287
    have x320 : w14.cell? ⟨w5.heap.size, 2, none⟩ = some (.int .i64 (slackV (x0) (n1) (n2)).slack) := cellB h14 x288
    have x321 : w14.cell? ⟨w5.heap.size, 3, none⟩ = some (.int .i64 (slackV (x0) (n1) (n2)).weight) := cellB h14 x289
    have l322 : w5.heap.size < w14.heap.size := by omega
    clear f266 f267 f268 f269 f270 f264 x271 x272 x273 x274 l275 x276 x277 x278 x279 l280 x281 x282 x283 x284 l285 x286 x287 x288 x289 l290
    go_wp2_with fail
    refine (eqActK _ _ (slackV (x0) (n1) (n2)) _ ((OwnAct.rd f295).mono (by (repeat (first | with_reducible exact Below.refl _ _ | with_reducible exact hbw | (with_reducible refine Below.setCell ?_ ?_ _; rotate_left; · first | exact Nat.le_refl _ | omega | (simp; done) | (simp; omega)) | (with_reducible refine Below.alloc ?_ ?_ _; rotate_left; · first | exact Nat.le_refl _ | omega | (simp; done) | (simp; omega)) | with_reducible refine below_drewN ?_ _ | with_reducible refine Below.drew ?_)))) ((OwnAct.rd f298).mono (by (repeat (first | with_reducible exact Below.refl _ _ | with_reducible exact hbw | (with_reducible refine Below.setCell ?_ ?_ _; rotate_left; · first | exact Nat.le_refl _ | omega | (simp; done) | (simp; omega)) | (with_reducible refine Below.alloc ?_ ?_ _; rotate_left; · first | exact Nat.le_refl _ | omega | (simp; done) | (simp; omega)) | with_reducible refine below_drewN ?_ _ | with_reducible refine Below.drew ?_))))).mono ?_
    rintro e w15 ⟨rfl, h15⟩
    have st323 : Below w14.heap.size w14 w15 := Below.trans (by (repeat (first | with_reducible exact Below.refl _ _ | with_reducible exact hbw | (with_reducible refine Below.setCell ?_ ?_ _; rotate_left; · first | exact Nat.le_refl _ | omega | (simp; done) | (simp; omega)) | (with_reducible refine Below.alloc ?_ ?_ _; rotate_left; · first | exact Nat.le_refl _ | omega | (simp; done) | (simp; omega)) | with_reducible refine below_drewN ?_ _ | with_reducible refine Below.drew ?_))) (h15.mono (by first | exact Nat.le_refl _ | omega | (simp; done) | (simp; omega)))
    have sz15 : w14.heap.size + 1 ≤ w15.heap.size := by have := h15.size; simp at this ⊢; omega
    have bw15 : Below w.heap.size w w15 := bw14.trans (st323.mono bw14.size)
    have f324 := f297.mono st323
    have f325 := f298.mono st323
    have f326 := f299.mono st323
    have f327 := f300.mono st323
    have f328 := f301.mono st323
    have f329 := f302.mono st323
    have f330 := f295.mono st323
    have x331 : w15.cell? ⟨w.heap.size, 0, none⟩ = some (.int .i64 (x0).note) := cellB st323 x303
    have x332 : w15.cell? ⟨w.heap.size, 1, none⟩ = some (l0) := cellB st323 x304
    have x333 : w15.cell? ⟨w.heap.size, 2, none⟩ = some (.int .i64 (x0).slack) := cellB st323 x305
    have x334 : w15.cell? ⟨w.heap.size, 3, none⟩ = some (.int .i64 (x0).weight) := cellB st323 x306
    have l335 : w.heap.size < w15.heap.size := by omega
    have x336 : w15.cell? ⟨w3.heap.size, 0, none⟩ = some (.int .i64 (slackV (x0) (n1) (n2)).note) := cellB st323 x308
    have x337 : w15.cell? ⟨w3.heap.size, 1, none⟩ = some (.slice a20 (slackV (x0) (n1) (n2)).levs.length c21) := cellB st323 x309
    have x338 : w15.cell? ⟨w3.heap.size, 2, none⟩ = some (.int .i64 (slackV (x0) (n1) (n2)).slack) := cellB st323 x310
    have x339 : w15.cell? ⟨w3.heap.size, 3, none⟩ = some (.int .i64 (slackV (x0) (n1) (n2)).weight) := cellB st323 x311
    have l340 : w3.heap.size < w15.heap.size := by omega
    have x341 : w15.cell? ⟨w4.heap.size, 0, none⟩ = some (.int .i64 (x0).note) := cellB st323 x313
    have x342 : w15.cell? ⟨w4.heap.size, 1, none⟩ = some (.slice a32 (x0).levs.length c33) := cellB st323 x314
    have x343 : w15.cell? ⟨w4.heap.size, 2, none⟩ = some (.int .i64 (x0).slack) := cellB st323 x315
    have x344 : w15.cell? ⟨w4.heap.size, 3, none⟩ = some (.int .i64 (x0).weight) := cellB st323 x316
    have l345 : w4.heap.size < w15.heap.size := by omega
    have x346 : w15.cell? ⟨w5.heap.size, 0, none⟩ = some (.int .i64 (slackV (x0) (n1) (n2)).note) := cellB st323 x318
    have x347 : w15.cell? ⟨w5.heap.size, 1, none⟩ = some (.slice a50 (slackV (x0) (n1) (n2)).levs.length c51) := cellB st323 x319
    have x348 : w15.cell? ⟨w5.heap.size, 2, none⟩ = some (.int .i64 (slackV (x0) (n1) (n2)).slack) := cellB st323 x320
    have x349 : w15.cell? ⟨w5.heap.size, 3, none⟩ = some (.int .i64 (slackV (x0) (n1) (n2)).weight) := cellB st323 x321
    have l350 : w5.heap.size < w15.heap.size := by omega
    have x351 : w15.cell? ⟨w14.heap.size, 0, none⟩ = some (.int .i64 (slackV (x0) (n1) (n2)).note) := cellB h15 (by simp [go_sem])
    have x352 : w15.cell? ⟨w14.heap.size, 1, none⟩ = some (.slice a293 (slackV (x0) (n1) (n2)).levs.length c294) := cellB h15 (by simp [go_sem])
    have x353 : w15.cell? ⟨w14.heap.size, 2, none⟩ = some (.int .i64 (slackV (x0) (n1) (n2)).slack) := cellB h15 (by simp [go_sem])
    have x354 : w15.cell? ⟨w14.heap.size, 3, none⟩ = some (.int .i64 (slackV (x0) (n1) (n2)).weight) := cellB h15 (by simp [go_sem])
    have l355 : w14.heap.size < w15.heap.size := by omega
    clear f297 f298 f299 f300 f301 f302 f295 x303 x304 x305 x306 l307 x308 x309 x310 x311 l312 x313 x314 x315 x316 l317 x318 x319 x320 x321 l322 h15
    go_wp2_with fail
    refine (heldActK _ _ _ (slackV (x0) (n1) (n2)) (1) _ f327 (by omega) (by have := hbd; omega)).mono ?_
    rintro e w16 ⟨rfl, h16⟩
    have sz16 : w15.heap.size ≤ w16.heap.size := h16.size
    have bw16 : Below w.heap.size w w16 := bw15.trans (h16.mono bw15.size)
    have f357 := f324.mono h16
    have f358 := f325.mono h16
    have f359 := f326.mono h16
    have f360 := f327.mono h16
    have f361 := f328.mono h16
    have f362 := f329.mono h16
    have f363 := f330.mono h16
    have x364 : w16.cell? ⟨w.heap.size, 0, none⟩ = some (.int .i64 (x0).note) := cellB h16 x331
    have x365 : w16.cell? ⟨w.heap.size, 1, none⟩ = some (l0) := cellB h16 x332
    have x366 : w16.cell? ⟨w.heap.size, 2, none⟩ = some (.int .i64 (x0).slack) := cellB h16 x333
    have x367 : w16.cell? ⟨w.heap.size, 3, none⟩ = some (.int .i64 (x0).weight) := cellB h16 x334
    have l368 : w.heap.size < w16.heap.size := by omega
    have x369 : w16.cell? ⟨w3.heap.size, 0, none⟩ = some (.int .i64 (slackV (x0) (n1) (n2)).note) := cellB h16 x336
    have x370 : w16.cell? ⟨w3.heap.size, 1, none⟩ = some (.slice a20 (slackV (x0) (n1) (n2)).levs.length c21) := cellB h16 x337
    have x371 : w16.cell? ⟨w3.heap.size, 2, none⟩ = some (.int .i64 (slackV (x0) (n1) (n2)).slack) := cellB h16 x338
    have x372 : w16.cell? ⟨w3.heap.size, 3, none⟩ = some (.int .i64 (slackV (x0) (n1) (n2)).weight) := cellB h16 x339
    have l373 : w3.heap.size < w16.heap.size := by omega
    have x374 : w16.cell? ⟨w4.heap.size, 0, none⟩ = some (.int .i64 (x0).note) := cellB h16 x341
    have x375 : w16.cell? ⟨w4.heap.size, 1, none⟩ = some (.slice a32 (x0).levs.length c33) := cellB h16 x342
    have x376 : w16.cell? ⟨w4.heap.size, 2, none⟩ = some (.int .i64 (x0).slack) := cellB h16 x343
    have x377 : w16.cell? ⟨w4.heap.size, 3, none⟩ = some (.int .i64 (x0).weight) := cellB h16 x344
    have l378 : w4.heap.size < w16.heap.size := by omega
    have x379 : w16.cell? ⟨w5.heap.size, 0, none⟩ = some (.int .i64 (slackV (x0) (n1) (n2)).note) := cellB h16 x346
    have x380 : w16.cell? ⟨w5.heap.size, 1, none⟩ = some (.slice a50 (slackV (x0) (n1) (n2)).levs.length c51) := cellB h16 x347
    have x381 : w16.cell? ⟨w5.heap.size, 2, none⟩ = some (.int .i64 (slackV (x0) (n1) (n2)).slack) := cellB h16 x348
    have x382 : w16.cell? ⟨w5.heap.size, 3, none⟩ = some (.int .i64 (slackV (x0) (n1) (n2)).weight) := cellB h16 x349
    have l383 : w5.heap.size < w16.heap.size := by omega
    have x384 : w16.cell? ⟨w14.heap.size, 0, none⟩ = some (.int .i64 (slackV (x0) (n1) (n2)).note) := cellB h16 x351
    have x385 : w16.cell? ⟨w14.heap.size, 1, none⟩ = some (.slice a293 (slackV (x0) (n1) (n2)).levs.length c294) := cellB h16 x352
    have x386 : w16.cell? ⟨w14.heap.size, 2, none⟩ = some (.int .i64 (slackV (x0) (n1) (n2)).slack) := cellB h16 x353
    have x387 : w16.cell? ⟨w14.heap.size, 3, none⟩ = some (.int .i64 (slackV (x0) (n1) (n2)).weight) := cellB h16 x354
    have l388 : w14.heap.size < w16.heap.size := by omega
    clear f324 f325 f326 f327 f328 f329 f330 x331 x332 x333 x334 l335 x336 x337 x338 x339 l340 x341 x342 x343 x344 l345 x346 x347 x348 x349 l350 x351 x352 x353 x354 l355
    go_wp2
    go_ret
    exact ⟨rfl, bw16⟩
  · skip
    go_enter Try.func11, Try.ntmps11
    go_wp2_with fail
    refine (szActN _ (x0) (1048576) _ (r0.mono (by (repeat (first | with_reducible exact Below.refl _ _ | with_reducible exact hbw | (with_reducible refine Below.setCell ?_ ?_ _; rotate_left; · first | exact Nat.le_refl _ | omega | (simp; done) | (simp; omega)) | (with_reducible refine Below.alloc ?_ ?_ _; rotate_left; · first | exact Nat.le_refl _ | omega | (simp; done) | (simp; omega)) | with_reducible refine below_drewN ?_ _ | with_reducible refine Below.drew ?_)))) o0 (by omega) (by omega) (by omega)).mono ?_
    rintro e w1 ⟨rfl, h1⟩
    have bw1 : Below w.heap.size w w1 := Below.trans (by (repeat (first | with_reducible exact Below.refl _ _ | with_reducible exact hbw | (with_reducible refine Below.setCell ?_ ?_ _; rotate_left; · first | exact Nat.le_refl _ | omega | (simp; done) | (simp; omega)) | (with_reducible refine Below.alloc ?_ ?_ _; rotate_left; · first | exact Nat.le_refl _ | omega | (simp; done) | (simp; omega)) | with_reducible refine below_drewN ?_ _ | with_reducible refine Below.drew ?_))) (h1.mono (by simp <;> omega))
    go_wp2
    go_ret
    exact ⟨rfl, bw1⟩

end Go.Proofs.Ytjmapbgbmgaljaa
