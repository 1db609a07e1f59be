/- The law FnExactTuneText returns true and leaves memory as it was. -/
import Derived.Test.YtgdfecnpkjnhnaaDoorTunI
import Derived.Test.YtgdfecnpkjnhnaaDoorKTun
set_option linter.unusedSimpArgs false
set_option linter.unnecessarySimpa false
set_option linter.unusedVariables false
set_option maxRecDepth 100000
namespace Go.Proofs.YtgdfecnpkjnhnaaDoor
open Go.RowKit

set_option maxHeartbeats 4000000 in
theorem lawTuneText (w : World) (v0 : Value) (y0 : Value × TunD) (h0 : Tun w v0 y0.1 y0.2) (o0 : y0.2.ok) (ht : Tab w) :
    Calls Tryd.prog 4 #[v0] w fun e w' => e = .returned (.bool true) ∧ Below w.heap.size w w' := by
  obtain ⟨l0, x0⟩ := y0
  obtain ⟨rfl, hl0⟩ := h0
  simp only at hl0 o0 ⊢
  have r0 : RdTun w (.agg #[.string (x0).name, l0]) x0 := ⟨l0, rfl, hl0⟩
  by_cases g0 : szTun x0 ≤ 1048576
  · skip
    have q0 : (x0).tones.length ≤ 1048576 := by have := g0; unfold szTun at this; omega
    go_enter Tryd.func4, Tryd.ntmps4
    go_wp2_with fail
    refine (szTunY _ (x0) (1048576) _ (r0.mono (by (repeat (first | with_reducible exact Below.refl _ _ | with_reducible exact hbw | (with_reducible refine Below.setCell ?_ ?_ _; rotate_left; · first | exact Nat.le_refl _ | omega | (simp; done) | (simp; omega)) | (with_reducible refine Below.alloc ?_ ?_ _; rotate_left; · first | exact Nat.le_refl _ | omega | (simp; done) | (simp; omega)) | with_reducible refine below_drewN ?_ _ | with_reducible refine Below.drew ?_)))) o0 (by omega) (by omega) (by omega)).mono ?_
    rintro e w1 ⟨rfl, h1⟩
    have st1 : Below w.heap.size w w1 := Below.trans (by (repeat (first | with_reducible exact Below.refl _ _ | with_reducible exact hbw | (with_reducible refine Below.setCell ?_ ?_ _; rotate_left; · first | exact Nat.le_refl _ | omega | (simp; done) | (simp; omega)) | (with_reducible refine Below.alloc ?_ ?_ _; rotate_left; · first | exact Nat.le_refl _ | omega | (simp; done) | (simp; omega)) | with_reducible refine below_drewN ?_ _ | with_reducible refine Below.drew ?_))) (h1.mono (by first | exact Nat.le_refl _ | omega | (simp; done) | (simp; omega)))
    have sz1 : w.heap.size + 1 ≤ w1.heap.size := by have := h1.size; simp at this ⊢; omega
    have bw1 : Below w.heap.size w w1 := st1
    have x2 : w1.cell? ⟨w.heap.size, 0, none⟩ = some (.string (x0).name) := cellB h1 (by simp [go_sem])
    have x3 : w1.cell? ⟨w.heap.size, 1, none⟩ = some (l0) := cellB h1 (by simp [go_sem])
    have l4 : w.heap.size < w1.heap.size := by omega
    clear h1
    go_wp2_with fail
    refine (toTunK _ (x0) _ (r0.mono (by have hbw := bw1; (repeat (first | with_reducible exact Below.refl _ _ | with_reducible exact hbw | (with_reducible refine Below.setCell ?_ ?_ _; rotate_left; · first | exact Nat.le_refl _ | omega | (simp; done) | (simp; omega)) | (with_reducible refine Below.alloc ?_ ?_ _; rotate_left; · first | exact Nat.le_refl _ | omega | (simp; done) | (simp; omega)) | with_reducible refine below_drewN ?_ _ | with_reducible refine Below.drew ?_)))) q0).mono ?_
    rintro e w2 ⟨v5, rfl, ho6, h2⟩
    obtain ⟨a7, c8, rfl⟩ := ho6.form
    have f9 : OwnTun w1.heap.size w2.heap.size w2 (.agg #[.string (x0).name, .slice a7 (x0).tones.length c8]) (x0) := ho6
    clear ho6
    have sz2 : w1.heap.size ≤ w2.heap.size := h2.size
    have bw2 : Below w.heap.size w w2 := bw1.trans (h2.mono bw1.size)
    have x11 : w2.cell? ⟨w.heap.size, 0, none⟩ = some (.string (x0).name) := cellB h2 x2
    have x12 : w2.cell? ⟨w.heap.size, 1, none⟩ = some (l0) := cellB h2 x3
    have l13 : w.heap.size < w2.heap.size := by omega
    clear x2 x3 l4
    go_wp2_with fail
    refine (specTuneText_any _ (x0) _ (OwnTun.rd f9) o0 q0).mono ?_
    rintro e w3 ⟨rfl, h3⟩
    have sz3 : w2.heap.size ≤ w3.heap.size := h3.size
    have bw3 : Below w.heap.size w w3 := bw2.trans (h3.mono bw2.size)
    have f15 := f9.mono h3
    have x16 : w3.cell? ⟨w.heap.size, 0, none⟩ = some (.string (x0).name) := cellB h3 x11
    have x17 : w3.cell? ⟨w.heap.size, 1, none⟩ = some (l0) := cellB h3 x12
    have l18 : w.heap.size < w3.heap.size := by omega
    clear f9 x11 x12 l13
    go_wp2_with fail
    refine (toTunK _ (x0) _ (r0.mono (by have hbw := bw3; (repeat (first | with_reducible exact Below.refl _ _ | with_reducible exact hbw | (with_reducible refine Below.setCell ?_ ?_ _; rotate_left; · first | exact Nat.le_refl _ | omega | (simp; done) | (simp; omega)) | (with_reducible refine Below.alloc ?_ ?_ _; rotate_left; · first | exact Nat.le_refl _ | omega | (simp; done) | (simp; omega)) | with_reducible refine below_drewN ?_ _ | with_reducible refine Below.drew ?_)))) q0).mono ?_
    rintro e w4 ⟨v19, rfl, ho20, h4⟩
    obtain ⟨a21, c22, rfl⟩ := ho20.form
    have f23 : OwnTun w3.heap.size w4.heap.size w4 (.agg #[.string (x0).name, .slice a21 (x0).tones.length c22]) (x0) := ho20
    clear ho20
    have sz4 : w3.heap.size ≤ w4.heap.size := h4.size
    have bw4 : Below w.heap.size w w4 := bw3.trans (h4.mono bw3.size)
    have f25 := f15.mono h4
    have x26 : w4.cell? ⟨w.heap.size, 0, none⟩ = some (.string (x0).name) := cellB h4 x16
    have x27 : w4.cell? ⟨w.heap.size, 1, none⟩ = some (l0) := cellB h4 x17
    have l28 : w.heap.size < w4.heap.size := by omega
    clear f15 x16 x17 l18
    go_wp2_with fail
    refine (implTuneText_any _ (x0) _ ((OwnTun.rd f23).mono (by (repeat (first | with_reducible exact Below.refl _ _ | with_reducible exact hbw | (with_reducible refine Below.setCell ?_ ?_ _; rotate_left; · first | exact Nat.le_refl _ | omega | (simp; done) | (simp; omega)) | (with_reducible refine Below.alloc ?_ ?_ _; rotate_left; · first | exact Nat.le_refl _ | omega | (simp; done) | (simp; omega)) | with_reducible refine below_drewN ?_ _ | with_reducible refine Below.drew ?_)))) o0 q0 (ht.mono (by have hbw := bw4; (repeat (first | with_reducible exact Below.refl _ _ | with_reducible exact hbw | (with_reducible refine Below.setCell ?_ ?_ _; rotate_left; · first | exact Nat.le_refl _ | omega | (simp; done) | (simp; omega)) | (with_reducible refine Below.alloc ?_ ?_ _; rotate_left; · first | exact Nat.le_refl _ | omega | (simp; done) | (simp; omega)) | with_reducible refine below_drewN ?_ _ | with_reducible refine Below.drew ?_))))).mono ?_
    rintro e w5 ⟨rfl, h5⟩
    have st29 : Below w4.heap.size w4 w5 := Below.trans (by (repeat (first | with_reducible exact Below.refl _ _ | with_reducible exact hbw | (with_reducible refine Below.setCell ?_ ?_ _; rotate_left; · first | exact Nat.le_refl _ | omega | (simp; done) | (simp; omega)) | (with_reducible refine Below.alloc ?_ ?_ _; rotate_left; · first | exact Nat.le_refl _ | omega | (simp; done) | (simp; omega)) | with_reducible refine below_drewN ?_ _ | with_reducible refine Below.drew ?_))) (h5.mono (by first | exact Nat.le_refl _ | omega | (simp; done) | (simp; omega)))
    have sz5 : w4.heap.size + 1 ≤ w5.heap.size := by have := h5.size; simp at this ⊢; omega
    have bw5 : Below w.heap.size w w5 := bw4.trans (st29.mono bw4.size)
    have f30 := f25.mono st29
    have f31 := f23.mono st29
    have x32 : w5.cell? ⟨w.heap.size, 0, none⟩ = some (.string (x0).name) := cellB st29 x26
    have x33 : w5.cell? ⟨w.heap.size, 1, none⟩ = some (l0) := cellB st29 x27
    have l34 : w.heap.size < w5.heap.size := by omega
    have x35 : w5.cell? ⟨w4.heap.size, 0, none⟩ = some (.string (x0).name) := cellB h5 (by simp [go_sem])
    have x36 : w5.cell? ⟨w4.heap.size, 1, none⟩ = some (.slice a21 (x0).tones.length c22) := cellB h5 (by simp [go_sem])
    have l37 : w4.heap.size < w5.heap.size := by omega
    clear f25 f23 x26 x27 l28 h5
    go_wp2_with fail
    refine wp_region_ord [(0, true), (1, true), (2, false), (3, false), (4, true)] (none) (by kernel_rfl) (by kernel_rfl) ?_
    (repeat (with_reducible refine wpOrd_soft (fun K hK => ?_); simp only [List.getElem?_toArray, List.getElem?_cons_zero, List.getElem?_cons_succ]; first | (go_simp; refine hK _ ?_) | (simp only [undef]; go_simp; refine hK _ ?_); clear hK K))
    (with_reducible refine wpOrd_hard ?_; simp only [List.getElem?_toArray, List.getElem?_cons_zero, List.getElem?_cons_succ])
    go_wp2_with fail
    refine (toTunK _ (x0) _ (r0.mono (by have hbw := bw5; (repeat (first | with_reducible exact Below.refl _ _ | with_reducible exact hbw | (with_reducible refine Below.setCell ?_ ?_ _; rotate_left; · first | exact Nat.le_refl _ | omega | (simp; done) | (simp; omega)) | (with_reducible refine Below.alloc ?_ ?_ _; rotate_left; · first | exact Nat.le_refl _ | omega | (simp; done) | (simp; omega)) | with_reducible refine below_drewN ?_ _ | with_reducible refine Below.drew ?_)))) q0).mono ?_
    rintro e w6 ⟨v38, rfl, ho39, h6⟩
    obtain ⟨a40, c41, rfl⟩ := ho39.form
    have f42 : OwnTun w5.heap.size w6.heap.size w6 (.agg #[.string (x0).name, .slice a40 (x0).tones.length c41]) (x0) := ho39
    clear ho39
    have st43 : Below w5.heap.size w5 w6 := undrew h6
    have sz6 : w5.heap.size ≤ w6.heap.size := st43.size
    have bw6 : Below w.heap.size w w6 := bw5.trans (st43.mono bw5.size)
    have f44 := f30.mono st43
    have f45 := f31.mono st43
    have x46 : w6.cell? ⟨w.heap.size, 0, none⟩ = some (.string (x0).name) := cellB st43 x32
    have x47 : w6.cell? ⟨w.heap.size, 1, none⟩ = some (l0) := cellB st43 x33
    have l48 : w.heap.size < w6.heap.size := by omega
    have x49 : w6.cell? ⟨w4.heap.size, 0, none⟩ = some (.string (x0).name) := cellB st43 x35
    have x50 : w6.cell? ⟨w4.heap.size, 1, none⟩ = some (.slice a21 (x0).tones.length c22) := cellB st43 x36
    have l51 : w4.heap.size < w6.heap.size := by omega
    clear f30 f31 x32 x33 l34 x35 x36 l37 h6
    go_wp2_with fail
    refine ⟨grown_of_below st43, ?_⟩
    (repeat (with_reducible refine wpOrd_soft (fun K hK => ?_); simp only [List.getElem?_toArray, List.getElem?_cons_zero, List.getElem?_cons_succ]; first | (go_simp; refine hK _ ?_) | (simp only [undef]; go_simp; refine hK _ ?_); clear hK K))
    (with_reducible refine wpOrd_hard ?_; simp only [List.getElem?_toArray, List.getElem?_cons_zero, List.getElem?_cons_succ])
    go_wp2_with fail
    refine (eqTunK _ _ (x0) _ (OwnTun.rd f45) (OwnTun.rd f42)).mono ?_
    rintro e w7 ⟨rfl, h7⟩
    have sz7 : w6.heap.size ≤ w7.heap.size := h7.size
    have bw7 : Below w.heap.size w w7 := bw6.trans (h7.mono bw6.size)
    have f53 := f44.mono h7
    have f54 := f45.mono h7
    have f55 := f42.mono h7
    have x56 : w7.cell? ⟨w.heap.size, 0, none⟩ = some (.string (x0).name) := cellB h7 x46
    have x57 : w7.cell? ⟨w.heap.size, 1, none⟩ = some (l0) := cellB h7 x47
    have l58 : w.heap.size < w7.heap.size := by omega
    have x59 : w7.cell? ⟨w4.heap.size, 0, none⟩ = some (.string (x0).name) := cellB h7 x49
    have x60 : w7.cell? ⟨w4.heap.size, 1, none⟩ = some (.slice a21 (x0).tones.length c22) := cellB h7 x50
    have l61 : w4.heap.size < w7.heap.size := by omega
    clear f44 f45 f42 x46 x47 l48 x49 x50 l51
    have rg62 : Below w5.heap.size w5 w7 := st43.trans (h7.mono st43.size)
    go_wp2_with fail
    refine ⟨grown_of_below rg62, ?_⟩
    (repeat (with_reducible refine wpOrd_soft (fun K hK => ?_); simp only [List.getElem?_toArray, List.getElem?_cons_zero, List.getElem?_cons_succ]; first | (go_simp; refine hK _ ?_) | (simp only [undef]; go_simp; refine hK _ ?_); clear hK K))
    (with_reducible refine wpOrd_nil ?_); refine NoPanic.normal ?_
    go_wp2
    go_ret
    exact ⟨rfl, bw7⟩
  · skip
    go_enter Tryd.func4, Tryd.ntmps4
    go_wp2_with fail
    refine (szTunN _ (x0) (1048576) _ (r0.mono (by (repeat (first | with_reducible exact Below.refl _ _ | with_reducible exact hbw | (with_reducible refine Below.setCell ?_ ?_ _; rotate_left; · first | exact Nat.le_refl _ | omega | (simp; done) | (simp; omega)) | (with_reducible refine Below.alloc ?_ ?_ _; rotate_left; · first | exact Nat.le_refl _ | omega | (simp; done) | (simp; omega)) | with_reducible refine below_drewN ?_ _ | with_reducible refine Below.drew ?_)))) o0 (by omega) (by omega) (by omega)).mono ?_
    rintro e w1 ⟨rfl, h1⟩
    have bw1 : Below w.heap.size w w1 := Below.trans (by (repeat (first | with_reducible exact Below.refl _ _ | with_reducible exact hbw | (with_reducible refine Below.setCell ?_ ?_ _; rotate_left; · first | exact Nat.le_refl _ | omega | (simp; done) | (simp; omega)) | (with_reducible refine Below.alloc ?_ ?_ _; rotate_left; · first | exact Nat.le_refl _ | omega | (simp; done) | (simp; omega)) | with_reducible refine below_drewN ?_ _ | with_reducible refine Below.drew ?_))) (h1.mono (by simp <;> omega))
    go_wp2
    go_ret
    exact ⟨rfl, bw1⟩

end Go.Proofs.YtgdfecnpkjnhnaaDoor
