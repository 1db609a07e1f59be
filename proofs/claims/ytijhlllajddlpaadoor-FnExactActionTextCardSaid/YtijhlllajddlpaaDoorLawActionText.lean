/- The law FnExactActionText returns true and leaves memory as it was. -/
import Derived.Test.YtijhlllajddlpaaDoorActText
import Derived.Test.YtijhlllajddlpaaDoorKAct
set_option linter.unusedSimpArgs false
set_option linter.unnecessarySimpa false
set_option linter.unusedVariables false
set_option maxRecDepth 100000
namespace Go.Proofs.YtijhlllajddlpaaDoor
open Go.RowKit

set_option maxHeartbeats 4000000 in
theorem lawActionText (w : World) (v0 : Value) (y0 : Value × ActD) (h0 : Acc w v0 y0.1 y0.2) (o0 : y0.2.ok) (ht : Tab w) :
    Calls Tryd.prog 3 #[v0] w fun e w' => e = .returned (.bool true) ∧ Below w.heap.size w w' := by
  obtain ⟨l0, x0⟩ := y0
  obtain ⟨rfl, hl0⟩ := h0
  simp only at hl0 o0 ⊢
  have r0 : RdAct w (.agg #[.int .i64 (x0).note, l0, .int .i64 (x0).slack, .int .i64 (x0).weight]) x0 := ⟨l0, rfl, hl0⟩
  by_cases g0 : szAct x0 ≤ 1048576
  · skip
    have q0 : (x0).levs.length ≤ 1048576 := by have := g0; unfold szAct at this; omega
    go_enter Tryd.func3, Tryd.ntmps3
    go_wp2_with fail
    refine (szActY _ (x0) (1048576) _ (r0.mono (by (repeat (first | with_reducible exact Below.refl _ _ | with_reducible exact hbw | (with_reducible refine Below.setCell ?_ ?_ _; rotate_left; · first | exact Nat.le_refl _ | omega | (simp; done) | (simp; omega)) | (with_reducible refine Below.alloc ?_ ?_ _; rotate_left; · first | exact Nat.le_refl _ | omega | (simp; done) | (simp; omega)) | with_reducible refine below_drewN ?_ _ | with_reducible refine Below.drew ?_)))) o0 (by omega) (by omega) (by omega)).mono ?_
    rintro e w1 ⟨rfl, h1⟩
    have st1 : Below w.heap.size w w1 := Below.trans (by (repeat (first | with_reducible exact Below.refl _ _ | with_reducible exact hbw | (with_reducible refine Below.setCell ?_ ?_ _; rotate_left; · first | exact Nat.le_refl _ | omega | (simp; done) | (simp; omega)) | (with_reducible refine Below.alloc ?_ ?_ _; rotate_left; · first | exact Nat.le_refl _ | omega | (simp; done) | (simp; omega)) | with_reducible refine below_drewN ?_ _ | with_reducible refine Below.drew ?_))) (h1.mono (by first | exact Nat.le_refl _ | omega | (simp; done) | (simp; omega)))
    have sz1 : w.heap.size + 1 ≤ w1.heap.size := by have := h1.size; simp at this ⊢; omega
    have bw1 : Below w.heap.size w w1 := st1
    have x2 : w1.cell? ⟨w.heap.size, 0, none⟩ = some (.int .i64 (x0).note) := cellB h1 (by simp [go_sem])
    have x3 : w1.cell? ⟨w.heap.size, 1, none⟩ = some (l0) := cellB h1 (by simp [go_sem])
    have x4 : w1.cell? ⟨w.heap.size, 2, none⟩ = some (.int .i64 (x0).slack) := cellB h1 (by simp [go_sem])
    have x5 : w1.cell? ⟨w.heap.size, 3, none⟩ = some (.int .i64 (x0).weight) := cellB h1 (by simp [go_sem])
    have l6 : w.heap.size < w1.heap.size := by omega
    clear h1
    go_wp2_with fail
    refine (toActK _ (x0) _ (r0.mono (by have hbw := bw1; (repeat (first | with_reducible exact Below.refl _ _ | with_reducible exact hbw | (with_reducible refine Below.setCell ?_ ?_ _; rotate_left; · first | exact Nat.le_refl _ | omega | (simp; done) | (simp; omega)) | (with_reducible refine Below.alloc ?_ ?_ _; rotate_left; · first | exact Nat.le_refl _ | omega | (simp; done) | (simp; omega)) | with_reducible refine below_drewN ?_ _ | with_reducible refine Below.drew ?_)))) q0).mono ?_
    rintro e w2 ⟨v7, rfl, ho8, h2⟩
    obtain ⟨a9, c10, rfl⟩ := ho8.form
    have f11 : OwnAct w1.heap.size w2.heap.size w2 (.agg #[.int .i64 (x0).note, .slice a9 (x0).levs.length c10, .int .i64 (x0).slack, .int .i64 (x0).weight]) (x0) := ho8
    clear ho8
    have sz2 : w1.heap.size ≤ w2.heap.size := h2.size
    have bw2 : Below w.heap.size w w2 := bw1.trans (h2.mono bw1.size)
    have x13 : w2.cell? ⟨w.heap.size, 0, none⟩ = some (.int .i64 (x0).note) := cellB h2 x2
    have x14 : w2.cell? ⟨w.heap.size, 1, none⟩ = some (l0) := cellB h2 x3
    have x15 : w2.cell? ⟨w.heap.size, 2, none⟩ = some (.int .i64 (x0).slack) := cellB h2 x4
    have x16 : w2.cell? ⟨w.heap.size, 3, none⟩ = some (.int .i64 (x0).weight) := cellB h2 x5
    have l17 : w.heap.size < w2.heap.size := by omega
    clear x2 x3 x4 x5 l6
    go_wp2_with fail
    refine (specActionText_any _ (x0) _ (OwnAct.rd f11) o0 q0).mono ?_
    rintro e w3 ⟨rfl, h3⟩
    have sz3 : w2.heap.size ≤ w3.heap.size := h3.size
    have bw3 : Below w.heap.size w w3 := bw2.trans (h3.mono bw2.size)
    have f19 := f11.mono h3
    have x20 : w3.cell? ⟨w.heap.size, 0, none⟩ = some (.int .i64 (x0).note) := cellB h3 x13
    have x21 : w3.cell? ⟨w.heap.size, 1, none⟩ = some (l0) := cellB h3 x14
    have x22 : w3.cell? ⟨w.heap.size, 2, none⟩ = some (.int .i64 (x0).slack) := cellB h3 x15
    have x23 : w3.cell? ⟨w.heap.size, 3, none⟩ = some (.int .i64 (x0).weight) := cellB h3 x16
    have l24 : w.heap.size < w3.heap.size := by omega
    clear f11 x13 x14 x15 x16 l17
    go_wp2_with fail
    refine (toActK _ (x0) _ (r0.mono (by have hbw := bw3; (repeat (first | with_reducible exact Below.refl _ _ | with_reducible exact hbw | (with_reducible refine Below.setCell ?_ ?_ _; rotate_left; · first | exact Nat.le_refl _ | omega | (simp; done) | (simp; omega)) | (with_reducible refine Below.alloc ?_ ?_ _; rotate_left; · first | exact Nat.le_refl _ | omega | (simp; done) | (simp; omega)) | with_reducible refine below_drewN ?_ _ | with_reducible refine Below.drew ?_)))) q0).mono ?_
    rintro e w4 ⟨v25, rfl, ho26, h4⟩
    obtain ⟨a27, c28, rfl⟩ := ho26.form
    have f29 : OwnAct w3.heap.size w4.heap.size w4 (.agg #[.int .i64 (x0).note, .slice a27 (x0).levs.length c28, .int .i64 (x0).slack, .int .i64 (x0).weight]) (x0) := ho26
    clear ho26
    have sz4 : w3.heap.size ≤ w4.heap.size := h4.size
    have bw4 : Below w.heap.size w w4 := bw3.trans (h4.mono bw3.size)
    have f31 := f19.mono h4
    have x32 : w4.cell? ⟨w.heap.size, 0, none⟩ = some (.int .i64 (x0).note) := cellB h4 x20
    have x33 : w4.cell? ⟨w.heap.size, 1, none⟩ = some (l0) := cellB h4 x21
    have x34 : w4.cell? ⟨w.heap.size, 2, none⟩ = some (.int .i64 (x0).slack) := cellB h4 x22
    have x35 : w4.cell? ⟨w.heap.size, 3, none⟩ = some (.int .i64 (x0).weight) := cellB h4 x23
    have l36 : w.heap.size < w4.heap.size := by omega
    clear f19 x20 x21 x22 x23 l24
    go_wp2_with fail
    refine (implActionText_any _ (x0) _ ((OwnAct.rd f29).mono (by (repeat (first | with_reducible exact Below.refl _ _ | with_reducible exact hbw | (with_reducible refine Below.setCell ?_ ?_ _; rotate_left; · first | exact Nat.le_refl _ | omega | (simp; done) | (simp; omega)) | (with_reducible refine Below.alloc ?_ ?_ _; rotate_left; · first | exact Nat.le_refl _ | omega | (simp; done) | (simp; omega)) | with_reducible refine below_drewN ?_ _ | with_reducible refine Below.drew ?_)))) o0 q0 (ht.mono (by have hbw := bw4; (repeat (first | with_reducible exact Below.refl _ _ | with_reducible exact hbw | (with_reducible refine Below.setCell ?_ ?_ _; rotate_left; · first | exact Nat.le_refl _ | omega | (simp; done) | (simp; omega)) | (with_reducible refine Below.alloc ?_ ?_ _; rotate_left; · first | exact Nat.le_refl _ | omega | (simp; done) | (simp; omega)) | with_reducible refine below_drewN ?_ _ | with_reducible refine Below.drew ?_))))).mono ?_
    rintro e w5 ⟨rfl, h5⟩
    have st37 : Below w4.heap.size w4 w5 := Below.trans (by (repeat (first | with_reducible exact Below.refl _ _ | with_reducible exact hbw | (with_reducible refine Below.setCell ?_ ?_ _; rotate_left; · first | exact Nat.le_refl _ | omega | (simp; done) | (simp; omega)) | (with_reducible refine Below.alloc ?_ ?_ _; rotate_left; · first | exact Nat.le_refl _ | omega | (simp; done) | (simp; omega)) | with_reducible refine below_drewN ?_ _ | with_reducible refine Below.drew ?_))) (h5.mono (by first | exact Nat.le_refl _ | omega | (simp; done) | (simp; omega)))
    have sz5 : w4.heap.size + 1 ≤ w5.heap.size := by have := h5.size; simp at this ⊢; omega
    have bw5 : Below w.heap.size w w5 := bw4.trans (st37.mono bw4.size)
    have f38 := f31.mono st37
    have f39 := f29.mono st37
    have x40 : w5.cell? ⟨w.heap.size, 0, none⟩ = some (.int .i64 (x0).note) := cellB st37 x32
    have x41 : w5.cell? ⟨w.heap.size, 1, none⟩ = some (l0) := cellB st37 x33
    have x42 : w5.cell? ⟨w.heap.size, 2, none⟩ = some (.int .i64 (x0).slack) := cellB st37 x34
    have x43 : w5.cell? ⟨w.heap.size, 3, none⟩ = some (.int .i64 (x0).weight) := cellB st37 x35
    have l44 : w.heap.size < w5.heap.size := by omega
    have x45 : w5.cell? ⟨w4.heap.size, 0, none⟩ = some (.int .i64 (x0).note) := cellB h5 (by simp [go_sem])
    have x46 : w5.cell? ⟨w4.heap.size, 1, none⟩ = some (.slice a27 (x0).levs.length c28) := cellB h5 (by simp [go_sem])
    have x47 : w5.cell? ⟨w4.heap.size, 2, none⟩ = some (.int .i64 (x0).slack) := cellB h5 (by simp [go_sem])
    have x48 : w5.cell? ⟨w4.heap.size, 3, none⟩ = some (.int .i64 (x0).weight) := cellB h5 (by simp [go_sem])
    have l49 : w4.heap.size < w5.heap.size := by omega
    clear f31 f29 x32 x33 x34 x35 l36 h5
    go_wp2_with fail
    refine wp_region_ord [(0, true), (1, true), (2, false), (3, false), (4, true)] (none) (by kernel_rfl) (by kernel_rfl) ?_
    (repeat (with_reducible refine wpOrd_soft (fun K hK => ?_); simp only [List.getElem?_toArray, List.getElem?_cons_zero, List.getElem?_cons_succ]; first | (go_simp; refine hK _ ?_) | (simp only [undef]; go_simp; refine hK _ ?_); clear hK K))
    (with_reducible refine wpOrd_hard ?_; simp only [List.getElem?_toArray, List.getElem?_cons_zero, List.getElem?_cons_succ])
    go_wp2_with fail
    refine (toActK _ (x0) _ (r0.mono (by have hbw := bw5; (repeat (first | with_reducible exact Below.refl _ _ | with_reducible exact hbw | (with_reducible refine Below.setCell ?_ ?_ _; rotate_left; · first | exact Nat.le_refl _ | omega | (simp; done) | (simp; omega)) | (with_reducible refine Below.alloc ?_ ?_ _; rotate_left; · first | exact Nat.le_refl _ | omega | (simp; done) | (simp; omega)) | with_reducible refine below_drewN ?_ _ | with_reducible refine Below.drew ?_)))) q0).mono ?_
    rintro e w6 ⟨v50, rfl, ho51, h6⟩
    obtain ⟨a52, c53, rfl⟩ := ho51.form
    have f54 : OwnAct w5.heap.size w6.heap.size w6 (.agg #[.int .i64 (x0).note, .slice a52 (x0).levs.length c53, .int .i64 (x0).slack, .int .i64 (x0).weight]) (x0) := ho51
    clear ho51
    have st55 : Below w5.heap.size w5 w6 := undrew h6
    have sz6 : w5.heap.size ≤ w6.heap.size := st55.size
    have bw6 : Below w.heap.size w w6 := bw5.trans (st55.mono bw5.size)
    have f56 := f38.mono st55
    have f57 := f39.mono st55
    have x58 : w6.cell? ⟨w.heap.size, 0, none⟩ = some (.int .i64 (x0).note) := cellB st55 x40
    have x59 : w6.cell? ⟨w.heap.size, 1, none⟩ = some (l0) := cellB st55 x41
    have x60 : w6.cell? ⟨w.heap.size, 2, none⟩ = some (.int .i64 (x0).slack) := cellB st55 x42
    have x61 : w6.cell? ⟨w.heap.size, 3, none⟩ = some (.int .i64 (x0).weight) := cellB st55 x43
    have l62 : w.heap.size < w6.heap.size := by omega
    have x63 : w6.cell? ⟨w4.heap.size, 0, none⟩ = some (.int .i64 (x0).note) := cellB st55 x45
    have x64 : w6.cell? ⟨w4.heap.size, 1, none⟩ = some (.slice a27 (x0).levs.length c28) := cellB st55 x46
    have x65 : w6.cell? ⟨w4.heap.size, 2, none⟩ = some (.int .i64 (x0).slack) := cellB st55 x47
    have x66 : w6.cell? ⟨w4.heap.size, 3, none⟩ = some (.int .i64 (x0).weight) := cellB st55 x48
    have l67 : w4.heap.size < w6.heap.size := by omega
    clear f38 f39 x40 x41 x42 x43 l44 x45 x46 x47 x48 l49 h6
    go_wp2_with fail
    refine ⟨grown_of_below st55, ?_⟩
    (repeat (with_reducible refine wpOrd_soft (fun K hK => ?_); simp only [List.getElem?_toArray, List.getElem?_cons_zero, List.getElem?_cons_succ]; first | (go_simp; refine hK _ ?_) | (simp only [undef]; go_simp; refine hK _ ?_); clear hK K))
    (with_reducible refine wpOrd_hard ?_; simp only [List.getElem?_toArray, List.getElem?_cons_zero, List.getElem?_cons_succ])
    go_wp2_with fail
    refine (eqActK _ _ (x0) _ (OwnAct.rd f57) (OwnAct.rd f54)).mono ?_
    rintro e w7 ⟨rfl, h7⟩
    have sz7 : w6.heap.size ≤ w7.heap.size := h7.size
    have bw7 : Below w.heap.size w w7 := bw6.trans (h7.mono bw6.size)
    have f69 := f56.mono h7
    have f70 := f57.mono h7
    have f71 := f54.mono h7
    have x72 : w7.cell? ⟨w.heap.size, 0, none⟩ = some (.int .i64 (x0).note) := cellB h7 x58
    have x73 : w7.cell? ⟨w.heap.size, 1, none⟩ = some (l0) := cellB h7 x59
    have x74 : w7.cell? ⟨w.heap.size, 2, none⟩ = some (.int .i64 (x0).slack) := cellB h7 x60
    have x75 : w7.cell? ⟨w.heap.size, 3, none⟩ = some (.int .i64 (x0).weight) := cellB h7 x61
    have l76 : w.heap.size < w7.heap.size := by omega
    have x77 : w7.cell? ⟨w4.heap.size, 0, none⟩ = some (.int .i64 (x0).note) := cellB h7 x63
    have x78 : w7.cell? ⟨w4.heap.size, 1, none⟩ = some (.slice a27 (x0).levs.length c28) := cellB h7 x64
    have x79 : w7.cell? ⟨w4.heap.size, 2, none⟩ = some (.int .i64 (x0).slack) := cellB h7 x65
    have x80 : w7.cell? ⟨w4.heap.size, 3, none⟩ = some (.int .i64 (x0).weight) := cellB h7 x66
    have l81 : w4.heap.size < w7.heap.size := by omega
    clear f56 f57 f54 x58 x59 x60 x61 l62 x63 x64 x65 x66 l67
    have rg82 : Below w5.heap.size w5 w7 := st55.trans (h7.mono st55.size)
    go_wp2_with fail
    refine ⟨grown_of_below rg82, ?_⟩
    (repeat (with_reducible refine wpOrd_soft (fun K hK => ?_); simp only [List.getElem?_toArray, List.getElem?_cons_zero, List.getElem?_cons_succ]; first | (go_simp; refine hK _ ?_) | (simp only [undef]; go_simp; refine hK _ ?_); clear hK K))
    (with_reducible refine wpOrd_nil ?_); refine NoPanic.normal ?_
    go_wp2
    go_ret
    exact ⟨rfl, bw7⟩
  · skip
    go_enter Tryd.func3, Tryd.ntmps3
    go_wp2_with fail
    refine (szActN _ (x0) (1048576) _ (r0.mono (by (repeat (first | with_reducible exact Below.refl _ _ | with_reducible exact hbw | (with_reducible refine Below.setCell ?_ ?_ _; rotate_left; · first | exact Nat.le_refl _ | omega | (simp; done) | (simp; omega)) | (with_reducible refine Below.alloc ?_ ?_ _; rotate_left; · first | exact Nat.le_refl _ | omega | (simp; done) | (simp; omega)) | with_reducible refine below_drewN ?_ _ | with_reducible refine Below.drew ?_)))) o0 (by omega) (by omega) (by omega)).mono ?_
    rintro e w1 ⟨rfl, h1⟩
    have bw1 : Below w.heap.size w w1 := Below.trans (by (repeat (first | with_reducible exact Below.refl _ _ | with_reducible exact hbw | (with_reducible refine Below.setCell ?_ ?_ _; rotate_left; · first | exact Nat.le_refl _ | omega | (simp; done) | (simp; omega)) | (with_reducible refine Below.alloc ?_ ?_ _; rotate_left; · first | exact Nat.le_refl _ | omega | (simp; done) | (simp; omega)) | with_reducible refine below_drewN ?_ _ | with_reducible refine Below.drew ?_))) (h1.mono (by simp <;> omega))
    go_wp2
    go_ret
    exact ⟨rfl, bw1⟩

end Go.Proofs.YtijhlllajddlpaaDoor
