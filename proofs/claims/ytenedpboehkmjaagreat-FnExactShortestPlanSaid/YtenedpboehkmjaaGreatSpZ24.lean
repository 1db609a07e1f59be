import Derived.Test.YtenedpboehkmjaaGreatSpZ23
import Derived.Test.YtenedpboehkmjaaGreatSpZ20
/- The law FnExactShortestPlan returns true and leaves memory as it was. -/
set_option linter.unusedSimpArgs false
set_option linter.unnecessarySimpa false
set_option linter.unusedVariables false
set_option maxRecDepth 100000
namespace Go.Proofs.YtenedpboehkmjaaGreat
open Go.RowKit

set_option maxHeartbeats 4000000 in
theorem lawShortestPlan (w : World) (v0 : Value) (x0 : ModD) (h0 : RdModD w v0 x0) (o0 : okModD x0) (v1 : Value) (x1 : PrfD) (h1 : RdPrf w v1 x1) (o1 : okPrf x1) (v2 : Value) (x2 : GoalD) (h2 : RdGoal w v2 x2) (o2 : okGoal x2) (n3 : Int) (o3 : I64 n3) :
    Calls Tryz.prog 3 #[v0, v1, v2, .int .i64 n3] w fun e w' => e = .returned (.bool true) ∧ Below w.heap.size w w' := by
  have r0 : RdModD w v0 x0 := h0
  obtain ⟨a00, c00, rfl⟩ := h0.form2
  have r1 : RdPrf w v1 x1 := h1
  obtain ⟨a10, c10, rfl⟩ := h1.form
  have q2 : szGoal x2 ≤ 1048576 := Nat.zero_le _
  unfold RdGoal at h2
  subst h2
  unfold GoalD.val
  by_cases g0 : szModD x0 ≤ 1048576
  · skip
    by_cases g1 : szModD x0 + szPrf x1 ≤ 1048576
    · skip
      have q0 : szModD x0 ≤ 1048576 := by omega
      have q1 : szPrf x1 ≤ 1048576 := by omega
      have zb0 := sizeModD_bd q0
      have zb1 := szPrf_bd q1
      have hbd := spV_len x0 x1 x2 n3
      go_enter Tryz.func3, Tryz.ntmps3
      go_wp2_with fail
      refine (szModDY _ (x0) (1048576) _ (r0.mono (by (repeat (first | with_reducible exact Below.refl _ _ | with_reducible exact hbw | (with_reducible refine Below.setCell ?_ ?_ _; rotate_left; · first | exact Nat.le_refl _ | omega | (simp; done) | (simp; omega)) | (with_reducible refine Below.alloc ?_ ?_ _; rotate_left; · first | exact Nat.le_refl _ | omega | (simp; done) | (simp; omega)) | with_reducible refine below_drewN ?_ _ | with_reducible refine Below.drew ?_)))) o0 (by omega) (by omega) (by omega)).mono ?_
      rintro e w1 ⟨rfl, h1⟩
      have st10 : Below w.heap.size w w1 := Below.trans (by (repeat (first | with_reducible exact Below.refl _ _ | with_reducible exact hbw | (with_reducible refine Below.setCell ?_ ?_ _; rotate_left; · first | exact Nat.le_refl _ | omega | (simp; done) | (simp; omega)) | (with_reducible refine Below.alloc ?_ ?_ _; rotate_left; · first | exact Nat.le_refl _ | omega | (simp; done) | (simp; omega)) | with_reducible refine below_drewN ?_ _ | with_reducible refine Below.drew ?_))) (h1.mono (by first | exact Nat.le_refl _ | omega | (simp; done) | (simp; omega)))
      have sz1 : w.heap.size + 3 ≤ w1.heap.size := by have := h1.size; simp at this ⊢; omega
      have bw1 : Below w.heap.size w w1 := st10
      have x11 : w1.cell? ⟨w.heap.size, 0, none⟩ = some (.slice a00.1 (x0).zones.length c00.1) := cellB h1 (by simp [go_sem])
      have x12 : w1.cell? ⟨w.heap.size, 1, none⟩ = some (.slice a00.2.1 (x0).weights.length c00.2.1) := cellB h1 (by simp [go_sem])
      have x13 : w1.cell? ⟨w.heap.size, 2, none⟩ = some (.slice a00.2.2 (x0).base.length c00.2.2) := cellB h1 (by simp [go_sem])
      have l14 : w.heap.size < w1.heap.size := by omega
      have x15 : w1.cell? ⟨w.heap.size + 1, 0, none⟩ = some (.string (x1).name) := cellB h1 (by simp [go_sem])
      have x16 : w1.cell? ⟨w.heap.size + 1, 1, none⟩ = some (.slice a10 (x1).rings.length c10) := cellB h1 (by simp [go_sem])
      have l17 : w.heap.size + 1 < w1.heap.size := by omega
      have x18 : w1.cell? ⟨w.heap.size + 1 + 1, 0, none⟩ = some (.int .i64 (x2).t.a) := cellB h1 (by simp [go_sem])
      have x19 : w1.cell? ⟨w.heap.size + 1 + 1, 1, none⟩ = some (.int .i64 (x2).t.b) := cellB h1 (by simp [go_sem])
      have x20 : w1.cell? ⟨w.heap.size + 1 + 1, 2, none⟩ = some (.int .i64 (x2).t.c) := cellB h1 (by simp [go_sem])
      have x21 : w1.cell? ⟨w.heap.size + 1 + 1, 3, none⟩ = some (.int .i64 (x2).t.d) := cellB h1 (by simp [go_sem])
      have x22 : w1.cell? ⟨w.heap.size + 1 + 1, 4, none⟩ = some (.int .i64 (x2).t.e) := cellB h1 (by simp [go_sem])
      have x23 : w1.cell? ⟨w.heap.size + 1 + 1, 5, none⟩ = some (.int .i64 (x2).tol) := cellB h1 (by simp [go_sem])
      have x24 : w1.cell? ⟨w.heap.size + 1 + 1, 6, none⟩ = some (.int .i64 (x2).most) := cellB h1 (by simp [go_sem])
      have l25 : w.heap.size + 1 + 1 < w1.heap.size := by omega
      clear h1
      go_wp2_with fail
      refine (szPrfY _ (x1) (1048576 - (szModD (x0) : Int)) _ (r1.mono (by have hbw := bw1; (repeat (first | with_reducible exact Below.refl _ _ | with_reducible exact hbw | (with_reducible refine Below.setCell ?_ ?_ _; rotate_left; · first | exact Nat.le_refl _ | omega | (simp; done) | (simp; omega)) | (with_reducible refine Below.alloc ?_ ?_ _; rotate_left; · first | exact Nat.le_refl _ | omega | (simp; done) | (simp; omega)) | with_reducible refine below_drewN ?_ _ | with_reducible refine Below.drew ?_)))) o1 (by omega) (by omega) (by omega)).mono ?_
      rintro e w2 ⟨rfl, h2⟩
      have sz2 : w1.heap.size ≤ w2.heap.size := h2.size
      have bw2 : Below w.heap.size w w2 := bw1.trans (h2.mono bw1.size)
      have x27 : w2.cell? ⟨w.heap.size, 0, none⟩ = some (.slice a00.1 (x0).zones.length c00.1) := cellB h2 x11
      have x28 : w2.cell? ⟨w.heap.size, 1, none⟩ = some (.slice a00.2.1 (x0).weights.length c00.2.1) := cellB h2 x12
      have x29 : w2.cell? ⟨w.heap.size, 2, none⟩ = some (.slice a00.2.2 (x0).base.length c00.2.2) := cellB h2 x13
      have l30 : w.heap.size < w2.heap.size := by omega
      have x31 : w2.cell? ⟨w.heap.size + 1, 0, none⟩ = some (.string (x1).name) := cellB h2 x15
      have x32 : w2.cell? ⟨w.heap.size + 1, 1, none⟩ = some (.slice a10 (x1).rings.length c10) := cellB h2 x16
      have l33 : w.heap.size + 1 < w2.heap.size := by omega
      have x34 : w2.cell? ⟨w.heap.size + 1 + 1, 0, none⟩ = some (.int .i64 (x2).t.a) := cellB h2 x18
      have x35 : w2.cell? ⟨w.heap.size + 1 + 1, 1, none⟩ = some (.int .i64 (x2).t.b) := cellB h2 x19
      have x36 : w2.cell? ⟨w.heap.size + 1 + 1, 2, none⟩ = some (.int .i64 (x2).t.c) := cellB h2 x20
      have x37 : w2.cell? ⟨w.heap.size + 1 + 1, 3, none⟩ = some (.int .i64 (x2).t.d) := cellB h2 x21
      have x38 : w2.cell? ⟨w.heap.size + 1 + 1, 4, none⟩ = some (.int .i64 (x2).t.e) := cellB h2 x22
      have x39 : w2.cell? ⟨w.heap.size + 1 + 1, 5, none⟩ = some (.int .i64 (x2).tol) := cellB h2 x23
      have x40 : w2.cell? ⟨w.heap.size + 1 + 1, 6, none⟩ = some (.int .i64 (x2).most) := cellB h2 x24
      have l41 : w.heap.size + 1 + 1 < w2.heap.size := by omega
      clear x11 x12 x13 l14 x15 x16 l17 x18 x19 x20 x21 x22 x23 x24 l25
      go_wp2_with fail
      refine wp_region_ord [(0, true), (2, true), (4, true), (6, true), (1, false), (3, false), (5, false), (7, false), (8, true), (9, true), (11, true), (10, true), (12, true)] (none) (by kernel_rfl) (by kernel_rfl) ?_
      (repeat (with_reducible refine wpOrd_soft (fun K hK => ?_); simp only [List.getElem?_toArray, List.getElem?_cons_zero, List.getElem?_cons_succ]; first | (go_simp; refine hK _ ?_) | (simp only [undef]; go_simp; refine hK _ ?_); clear hK K))
      (with_reducible refine wpOrd_hard ?_; simp only [List.getElem?_toArray, List.getElem?_cons_zero, List.getElem?_cons_succ])
      go_wp2_with fail
      refine (toModDK _ (x0) _ (r0.mono (by have hbw := bw2; (repeat (first | with_reducible exact Below.refl _ _ | with_reducible exact hbw | (with_reducible refine Below.setCell ?_ ?_ _; rotate_left; · first | exact Nat.le_refl _ | omega | (simp; done) | (simp; omega)) | (with_reducible refine Below.alloc ?_ ?_ _; rotate_left; · first | exact Nat.le_refl _ | omega | (simp; done) | (simp; omega)) | with_reducible refine below_drewN ?_ _ | with_reducible refine Below.drew ?_)))) q0).mono ?_
      rintro e w3 ⟨v42, rfl, ho43, h3⟩
      obtain ⟨a44, c45, rfl⟩ := ho43.form2
      have f46 : OwnModD w2.heap.size w3.heap.size w3 (.agg #[.slice a44.1 (x0).zones.length c45.1, .slice a44.2.1 (x0).weights.length c45.2.1, .slice a44.2.2 (x0).base.length c45.2.2]) (x0) := ho43
      clear ho43
      have st47 : Below w2.heap.size w2 w3 := undrew h3
      have sz3 : w2.heap.size ≤ w3.heap.size := st47.size
      have bw3 : Below w.heap.size w w3 := bw2.trans (st47.mono bw2.size)
      have x48 : w3.cell? ⟨w.heap.size, 0, none⟩ = some (.slice a00.1 (x0).zones.length c00.1) := cellB st47 x27
      have x49 : w3.cell? ⟨w.heap.size, 1, none⟩ = some (.slice a00.2.1 (x0).weights.length c00.2.1) := cellB st47 x28
      have x50 : w3.cell? ⟨w.heap.size, 2, none⟩ = some (.slice a00.2.2 (x0).base.length c00.2.2) := cellB st47 x29
      have l51 : w.heap.size < w3.heap.size := by omega
      have x52 : w3.cell? ⟨w.heap.size + 1, 0, none⟩ = some (.string (x1).name) := cellB st47 x31
      have x53 : w3.cell? ⟨w.heap.size + 1, 1, none⟩ = some (.slice a10 (x1).rings.length c10) := cellB st47 x32
      have l54 : w.heap.size + 1 < w3.heap.size := by omega
      have x55 : w3.cell? ⟨w.heap.size + 1 + 1, 0, none⟩ = some (.int .i64 (x2).t.a) := cellB st47 x34
      have x56 : w3.cell? ⟨w.heap.size + 1 + 1, 1, none⟩ = some (.int .i64 (x2).t.b) := cellB st47 x35
      have x57 : w3.cell? ⟨w.heap.size + 1 + 1, 2, none⟩ = some (.int .i64 (x2).t.c) := cellB st47 x36
      have x58 : w3.cell? ⟨w.heap.size + 1 + 1, 3, none⟩ = some (.int .i64 (x2).t.d) := cellB st47 x37
      have x59 : w3.cell? ⟨w.heap.size + 1 + 1, 4, none⟩ = some (.int .i64 (x2).t.e) := cellB st47 x38
      have x60 : w3.cell? ⟨w.heap.size + 1 + 1, 5, none⟩ = some (.int .i64 (x2).tol) := cellB st47 x39
      have x61 : w3.cell? ⟨w.heap.size + 1 + 1, 6, none⟩ = some (.int .i64 (x2).most) := cellB st47 x40
      have l62 : w.heap.size + 1 + 1 < w3.heap.size := by omega
      clear x27 x28 x29 l30 x31 x32 l33 x34 x35 x36 x37 x38 x39 x40 l41 h3
      go_wp2_with fail
      refine ⟨grown_of_below st47, ?_⟩
      (repeat (with_reducible refine wpOrd_soft (fun K hK => ?_); simp only [List.getElem?_toArray, List.getElem?_cons_zero, List.getElem?_cons_succ]; first | (go_simp; refine hK _ ?_) | (simp only [undef]; go_simp; refine hK _ ?_); clear hK K))
      (with_reducible refine wpOrd_hard ?_; simp only [List.getElem?_toArray, List.getElem?_cons_zero, List.getElem?_cons_succ])
      go_wp2_with fail
      refine (toPrfZ _ (x1) _ (r1.mono (by have hbw := bw3; (repeat (first | with_reducible exact Below.refl _ _ | with_reducible exact hbw | (with_reducible refine Below.setCell ?_ ?_ _; rotate_left; · first | exact Nat.le_refl _ | omega | (simp; done) | (simp; omega)) | (with_reducible refine Below.alloc ?_ ?_ _; rotate_left; · first | exact Nat.le_refl _ | omega | (simp; done) | (simp; omega)) | with_reducible refine below_drewN ?_ _ | with_reducible refine Below.drew ?_)))) q1).mono ?_
      rintro e w4 ⟨v63, rfl, ho64, h4⟩
      obtain ⟨a65, c66, rfl⟩ := ho64.form
      have f67 : OwnPrf w3.heap.size w4.heap.size w4 (.agg #[.string (x1).name, .slice a65 (x1).rings.length c66]) (x1) := ho64
      clear ho64
      have sz4 : w3.heap.size ≤ w4.heap.size := h4.size
      have bw4 : Below w.heap.size w w4 := bw3.trans (h4.mono bw3.size)
      have f69 := f46.mono h4
      have x70 : w4.cell? ⟨w.heap.size, 0, none⟩ = some (.slice a00.1 (x0).zones.length c00.1) := cellB h4 x48
      have x71 : w4.cell? ⟨w.heap.size, 1, none⟩ = some (.slice a00.2.1 (x0).weights.length c00.2.1) := cellB h4 x49
      have x72 : w4.cell? ⟨w.heap.size, 2, none⟩ = some (.slice a00.2.2 (x0).base.length c00.2.2) := cellB h4 x50
      have l73 : w.heap.size < w4.heap.size := by omega
      have x74 : w4.cell? ⟨w.heap.size + 1, 0, none⟩ = some (.string (x1).name) := cellB h4 x52
      have x75 : w4.cell? ⟨w.heap.size + 1, 1, none⟩ = some (.slice a10 (x1).rings.length c10) := cellB h4 x53
      have l76 : w.heap.size + 1 < w4.heap.size := by omega
      have x77 : w4.cell? ⟨w.heap.size + 1 + 1, 0, none⟩ = some (.int .i64 (x2).t.a) := cellB h4 x55
      have x78 : w4.cell? ⟨w.heap.size + 1 + 1, 1, none⟩ = some (.int .i64 (x2).t.b) := cellB h4 x56
      have x79 : w4.cell? ⟨w.heap.size + 1 + 1, 2, none⟩ = some (.int .i64 (x2).t.c) := cellB h4 x57
      have x80 : w4.cell? ⟨w.heap.size + 1 + 1, 3, none⟩ = some (.int .i64 (x2).t.d) := cellB h4 x58
      have x81 : w4.cell? ⟨w.heap.size + 1 + 1, 4, none⟩ = some (.int .i64 (x2).t.e) := cellB h4 x59
      have x82 : w4.cell? ⟨w.heap.size + 1 + 1, 5, none⟩ = some (.int .i64 (x2).tol) := cellB h4 x60
      have x83 : w4.cell? ⟨w.heap.size + 1 + 1, 6, none⟩ = some (.int .i64 (x2).most) := cellB h4 x61
      have l84 : w.heap.size + 1 + 1 < w4.heap.size := by omega
      clear f46 x48 x49 x50 l51 x52 x53 l54 x55 x56 x57 x58 x59 x60 x61 l62
      have rg85 : Below w2.heap.size w2 w4 := st47.trans (h4.mono st47.size)
      go_wp2_with fail
      refine ⟨grown_of_below rg85, ?_⟩
      (repeat (with_reducible refine wpOrd_soft (fun K hK => ?_); simp only [List.getElem?_toArray, List.getElem?_cons_zero, List.getElem?_cons_succ]; first | (go_simp; refine hK _ ?_) | (simp only [undef]; go_simp; refine hK _ ?_); clear hK K))
      (with_reducible refine wpOrd_hard ?_; simp only [List.getElem?_toArray, List.getElem?_cons_zero, List.getElem?_cons_succ])
      go_wp2_with fail
      refine (toGoalR _ (x2) _ (rdGoal _ _)).mono ?_
      rintro e w5 ⟨rfl, h5⟩
      have sz5 : w4.heap.size ≤ w5.heap.size := h5.size
      have bw5 : Below w.heap.size w w5 := bw4.trans (h5.mono bw4.size)
      have f87 := f69.mono h5
      have f88 := f67.mono h5
      have x89 : w5.cell? ⟨w.heap.size, 0, none⟩ = some (.slice a00.1 (x0).zones.length c00.1) := cellB h5 x70
      have x90 : w5.cell? ⟨w.heap.size, 1, none⟩ = some (.slice a00.2.1 (x0).weights.length c00.2.1) := cellB h5 x71
      have x91 : w5.cell? ⟨w.heap.size, 2, none⟩ = some (.slice a00.2.2 (x0).base.length c00.2.2) := cellB h5 x72
      have l92 : w.heap.size < w5.heap.size := by omega
      have x93 : w5.cell? ⟨w.heap.size + 1, 0, none⟩ = some (.string (x1).name) := cellB h5 x74
      have x94 : w5.cell? ⟨w.heap.size + 1, 1, none⟩ = some (.slice a10 (x1).rings.length c10) := cellB h5 x75
      have l95 : w.heap.size + 1 < w5.heap.size := by omega
      have x96 : w5.cell? ⟨w.heap.size + 1 + 1, 0, none⟩ = some (.int .i64 (x2).t.a) := cellB h5 x77
      have x97 : w5.cell? ⟨w.heap.size + 1 + 1, 1, none⟩ = some (.int .i64 (x2).t.b) := cellB h5 x78
      have x98 : w5.cell? ⟨w.heap.size + 1 + 1, 2, none⟩ = some (.int .i64 (x2).t.c) := cellB h5 x79
      have x99 : w5.cell? ⟨w.heap.size + 1 + 1, 3, none⟩ = some (.int .i64 (x2).t.d) := cellB h5 x80
      have x100 : w5.cell? ⟨w.heap.size + 1 + 1, 4, none⟩ = some (.int .i64 (x2).t.e) := cellB h5 x81
      have x101 : w5.cell? ⟨w.heap.size + 1 + 1, 5, none⟩ = some (.int .i64 (x2).tol) := cellB h5 x82
      have x102 : w5.cell? ⟨w.heap.size + 1 + 1, 6, none⟩ = some (.int .i64 (x2).most) := cellB h5 x83
      have l103 : w.heap.size + 1 + 1 < w5.heap.size := by omega
      clear f69 f67 x70 x71 x72 l73 x74 x75 l76 x77 x78 x79 x80 x81 x82 x83 l84
      have rg104 : Below w2.heap.size w2 w5 := rg85.trans (h5.mono rg85.size)
      go_wp2_with fail
      refine ⟨grown_of_below rg104, ?_⟩
      (repeat (with_reducible refine wpOrd_soft (fun K hK => ?_); simp only [List.getElem?_toArray, List.getElem?_cons_zero, List.getElem?_cons_succ]; first | (go_simp; refine hK _ ?_) | (simp only [undef]; go_simp; refine hK _ ?_); clear hK K))
      (with_reducible refine wpOrd_hard ?_; simp only [List.getElem?_toArray, List.getElem?_cons_zero, List.getElem?_cons_succ])
      go_wp2_with fail
      refine (specShortestPlan_any _ (x0) _ (x1) _ (x2) (n3) _ (OwnModD.rd f87) o0 q0 (OwnPrf.rd f88) o1 q1 (rdGoal _ _) o2 q2 o3).mono ?_
      rintro e w6 ⟨v105, rfl, ho106, h6⟩
      obtain ⟨a107, c108, rfl⟩ := ho106.form
      have f109 : OwnCutDs w5.heap.size w6.heap.size w6 (.slice a107 (spV (x0) (x1) (x2) (n3)).length c108) (spV (x0) (x1) (x2) (n3)) := ho106
      clear ho106
      have sz6 : w5.heap.size ≤ w6.heap.size := h6.size
      have bw6 : Below w.heap.size w w6 := bw5.trans (h6.mono bw5.size)
      have f111 := f87.mono h6
      have f112 := f88.mono h6
      have x113 : w6.cell? ⟨w.heap.size, 0, none⟩ = some (.slice a00.1 (x0).zones.length c00.1) := cellB h6 x89
      have x114 : w6.cell? ⟨w.heap.size, 1, none⟩ = some (.slice a00.2.1 (x0).weights.length c00.2.1) := cellB h6 x90
      have x115 : w6.cell? ⟨w.heap.size, 2, none⟩ = some (.slice a00.2.2 (x0).base.length c00.2.2) := cellB h6 x91
      have l116 : w.heap.size < w6.heap.size := by omega
      have x117 : w6.cell? ⟨w.heap.size + 1, 0, none⟩ = some (.string (x1).name) := cellB h6 x93
      have x118 : w6.cell? ⟨w.heap.size + 1, 1, none⟩ = some (.slice a10 (x1).rings.length c10) := cellB h6 x94
      have l119 : w.heap.size + 1 < w6.heap.size := by omega
      have x120 : w6.cell? ⟨w.heap.size + 1 + 1, 0, none⟩ = some (.int .i64 (x2).t.a) := cellB h6 x96
      have x121 : w6.cell? ⟨w.heap.size + 1 + 1, 1, none⟩ = some (.int .i64 (x2).t.b) := cellB h6 x97
      have x122 : w6.cell? ⟨w.heap.size + 1 + 1, 2, none⟩ = some (.int .i64 (x2).t.c) := cellB h6 x98
      have x123 : w6.cell? ⟨w.heap.size + 1 + 1, 3, none⟩ = some (.int .i64 (x2).t.d) := cellB h6 x99
      have x124 : w6.cell? ⟨w.heap.size + 1 + 1, 4, none⟩ = some (.int .i64 (x2).t.e) := cellB h6 x100
      have x125 : w6.cell? ⟨w.heap.size + 1 + 1, 5, none⟩ = some (.int .i64 (x2).tol) := cellB h6 x101
      have x126 : w6.cell? ⟨w.heap.size + 1 + 1, 6, none⟩ = some (.int .i64 (x2).most) := cellB h6 x102
      have l127 : w.heap.size + 1 + 1 < w6.heap.size := by omega
      clear f87 f88 x89 x90 x91 l92 x93 x94 l95 x96 x97 x98 x99 x100 x101 x102 l103
      have rg128 : Below w2.heap.size w2 w6 := rg104.trans (h6.mono rg104.size)
      go_wp2_with fail
      refine ⟨grown_of_below rg128, ?_⟩
      (repeat (with_reducible refine wpOrd_soft (fun K hK => ?_); simp only [List.getElem?_toArray, List.getElem?_cons_zero, List.getElem?_cons_succ]; first | (go_simp; refine hK _ ?_) | (simp only [undef]; go_simp; refine hK _ ?_); clear hK K))
      (with_reducible refine wpOrd_nil ?_); refine NoPanic.normal ?_
      go_wp2_with fail
      refine (toModDK _ (x0) _ (r0.mono (by have hbw := bw6; (repeat (first | with_reducible exact Below.refl _ _ | with_reducible exact hbw | (with_reducible refine Below.setCell ?_ ?_ _; rotate_left; · first | exact Nat.le_refl _ | omega | (simp; done) | (simp; omega)) | (with_reducible refine Below.alloc ?_ ?_ _; rotate_left; · first | exact Nat.le_refl _ | omega | (simp; done) | (simp; omega)) | with_reducible refine below_drewN ?_ _ | with_reducible refine Below.drew ?_)))) q0).mono ?_
      rintro e w7 ⟨v129, rfl, ho130, h7⟩
      obtain ⟨a131, c132, rfl⟩ := ho130.form2
      have f133 : OwnModD w6.heap.size w7.heap.size w7 (.agg #[.slice a131.1 (x0).zones.length c132.1, .slice a131.2.1 (x0).weights.length c132.2.1, .slice a131.2.2 (x0).base.length c132.2.2]) (x0) := ho130
      clear ho130
      have sz7 : w6.heap.size ≤ w7.heap.size := h7.size
      have bw7 : Below w.heap.size w w7 := bw6.trans (h7.mono bw6.size)
      have f135 := f111.mono h7
      have f136 := f112.mono h7
      have f137 := f109.mono h7
      have x138 : w7.cell? ⟨w.heap.size, 0, none⟩ = some (.slice a00.1 (x0).zones.length c00.1) := cellB h7 x113
      have x139 : w7.cell? ⟨w.heap.size, 1, none⟩ = some (.slice a00.2.1 (x0).weights.length c00.2.1) := cellB h7 x114
      have x140 : w7.cell? ⟨w.heap.size, 2, none⟩ = some (.slice a00.2.2 (x0).base.length c00.2.2) := cellB h7 x115
      have l141 : w.heap.size < w7.heap.size := by omega
      have x142 : w7.cell? ⟨w.heap.size + 1, 0, none⟩ = some (.string (x1).name) := cellB h7 x117
      have x143 : w7.cell? ⟨w.heap.size + 1, 1, none⟩ = some (.slice a10 (x1).rings.length c10) := cellB h7 x118
      have l144 : w.heap.size + 1 < w7.heap.size := by omega
      have x145 : w7.cell? ⟨w.heap.size + 1 + 1, 0, none⟩ = some (.int .i64 (x2).t.a) := cellB h7 x120
      have x146 : w7.cell? ⟨w.heap.size + 1 + 1, 1, none⟩ = some (.int .i64 (x2).t.b) := cellB h7 x121
      have x147 : w7.cell? ⟨w.heap.size + 1 + 1, 2, none⟩ = some (.int .i64 (x2).t.c) := cellB h7 x122
      have x148 : w7.cell? ⟨w.heap.size + 1 + 1, 3, none⟩ = some (.int .i64 (x2).t.d) := cellB h7 x123
      have x149 : w7.cell? ⟨w.heap.size + 1 + 1, 4, none⟩ = some (.int .i64 (x2).t.e) := cellB h7 x124
      have x150 : w7.cell? ⟨w.heap.size + 1 + 1, 5, none⟩ = some (.int .i64 (x2).tol) := cellB h7 x125
      have x151 : w7.cell? ⟨w.heap.size + 1 + 1, 6, none⟩ = some (.int .i64 (x2).most) := cellB h7 x126
      have l152 : w.heap.size + 1 + 1 < w7.heap.size := by omega
      clear f111 f112 f109 x113 x114 x115 l116 x117 x118 l119 x120 x121 x122 x123 x124 x125 x126 l127
      go_wp2_with fail
      refine (toPrfZ _ (x1) _ (r1.mono (by have hbw := bw7; (repeat (first | with_reducible exact Below.refl _ _ | with_reducible exact hbw | (with_reducible refine Below.setCell ?_ ?_ _; rotate_left; · first | exact Nat.le_refl _ | omega | (simp; done) | (simp; omega)) | (with_reducible refine Below.alloc ?_ ?_ _; rotate_left; · first | exact Nat.le_refl _ | omega | (simp; done) | (simp; omega)) | with_reducible refine below_drewN ?_ _ | with_reducible refine Below.drew ?_)))) q1).mono ?_
      rintro e w8 ⟨v153, rfl, ho154, h8⟩
      obtain ⟨a155, c156, rfl⟩ := ho154.form
      have f157 : OwnPrf (w7.heap.size + 1) w8.heap.size w8 (.agg #[.string (x1).name, .slice a155 (x1).rings.length c156]) (x1) := ho154.wide (by simp) (Nat.le_refl _)
      clear ho154
      have st158 : Below w7.heap.size w7 w8 := Below.trans (by (repeat (first | with_reducible exact Below.refl _ _ | with_reducible exact hbw | (with_reducible refine Below.setCell ?_ ?_ _; rotate_left; · first | exact Nat.le_refl _ | omega | (simp; done) | (simp; omega)) | (with_reducible refine Below.alloc ?_ ?_ _; rotate_left; · first | exact Nat.le_refl _ | omega | (simp; done) | (simp; omega)) | with_reducible refine below_drewN ?_ _ | with_reducible refine Below.drew ?_))) (h8.mono (by first | exact Nat.le_refl _ | omega | (simp; done) | (simp; omega)))
      have sz8 : w7.heap.size + 1 ≤ w8.heap.size := by have := h8.size; simp at this ⊢; omega
      have bw8 : Below w.heap.size w w8 := bw7.trans (st158.mono bw7.size)
      have f159 := f135.mono st158
      have f160 := f136.mono st158
      have f161 := f137.mono st158
      have f162 := f133.mono st158
      have x163 : w8.cell? ⟨w.heap.size, 0, none⟩ = some (.slice a00.1 (x0).zones.length c00.1) := cellB st158 x138
      have x164 : w8.cell? ⟨w.heap.size, 1, none⟩ = some (.slice a00.2.1 (x0).weights.length c00.2.1) := cellB st158 x139
      have x165 : w8.cell? ⟨w.heap.size, 2, none⟩ = some (.slice a00.2.2 (x0).base.length c00.2.2) := cellB st158 x140
      have l166 : w.heap.size < w8.heap.size := by omega
      have x167 : w8.cell? ⟨w.heap.size + 1, 0, none⟩ = some (.string (x1).name) := cellB st158 x142
      have x168 : w8.cell? ⟨w.heap.size + 1, 1, none⟩ = some (.slice a10 (x1).rings.length c10) := cellB st158 x143
      have l169 : w.heap.size + 1 < w8.heap.size := by omega
      have x170 : w8.cell? ⟨w.heap.size + 1 + 1, 0, none⟩ = some (.int .i64 (x2).t.a) := cellB st158 x145
      have x171 : w8.cell? ⟨w.heap.size + 1 + 1, 1, none⟩ = some (.int .i64 (x2).t.b) := cellB st158 x146
      have x172 : w8.cell? ⟨w.heap.size + 1 + 1, 2, none⟩ = some (.int .i64 (x2).t.c) := cellB st158 x147
      have x173 : w8.cell? ⟨w.heap.size + 1 + 1, 3, none⟩ = some (.int .i64 (x2).t.d) := cellB st158 x148
      have x174 : w8.cell? ⟨w.heap.size + 1 + 1, 4, none⟩ = some (.int .i64 (x2).t.e) := cellB st158 x149
      have x175 : w8.cell? ⟨w.heap.size + 1 + 1, 5, none⟩ = some (.int .i64 (x2).tol) := cellB st158 x150
      have x176 : w8.cell? ⟨w.heap.size + 1 + 1, 6, none⟩ = some (.int .i64 (x2).most) := cellB st158 x151
      have l177 : w.heap.size + 1 + 1 < w8.heap.size := by omega
      have x178 : w8.cell? ⟨w7.heap.size, 0, none⟩ = some (.slice a131.1 (x0).zones.length c132.1) := cellB h8 (by simp [go_sem])
      have x179 : w8.cell? ⟨w7.heap.size, 1, none⟩ = some (.slice a131.2.1 (x0).weights.length c132.2.1) := cellB h8 (by simp [go_sem])
      have x180 : w8.cell? ⟨w7.heap.size, 2, none⟩ = some (.slice a131.2.2 (x0).base.length c132.2.2) := cellB h8 (by simp [go_sem])
      have l181 : w7.heap.size < w8.heap.size := by omega
      clear f135 f136 f137 f133 x138 x139 x140 l141 x142 x143 l144 x145 x146 x147 x148 x149 x150 x151 l152 h8
      go_wp2_with fail
      obtain ⟨w9, hw9⟩ : ∃ wX : World, wX = (w8.alloc (.cells #[.string (x1).name, .slice a155 (x1).rings.length c156] 42)) := ⟨_, rfl⟩
      rw [← hw9]
      have h9 : Below (w8.alloc (.cells #[.string (x1).name, .slice a155 (x1).rings.length c156] 42)).heap.size (w8.alloc (.cells #[.string (x1).name, .slice a155 (x1).rings.length c156] 42)) w9 := by rw [hw9]; exact Below.refl _ _
      clear hw9
      have st182 : Below w8.heap.size w8 w9 := Below.trans (by (repeat (first | with_reducible exact Below.refl _ _ | with_reducible exact hbw | (with_reducible refine Below.setCell ?_ ?_ _; rotate_left; · first | exact Nat.le_refl _ | omega | (simp; done) | (simp; omega)) | (with_reducible refine Below.alloc ?_ ?_ _; rotate_left; · first | exact Nat.le_refl _ | omega | (simp; done) | (simp; omega)) | with_reducible refine below_drewN ?_ _ | with_reducible refine Below.drew ?_))) (h9.mono (by first | exact Nat.le_refl _ | omega | (simp; done) | (simp; omega)))
      have sz9 : w8.heap.size + 1 ≤ w9.heap.size := by have := h9.size; simp at this ⊢; omega
      have bw9 : Below w.heap.size w w9 := bw8.trans (st182.mono bw8.size)
      have f183 := f159.mono st182
      have f184 := f160.mono st182
      have f185 := f161.mono st182
      have f186 := f162.mono st182
      have f187 := f157.mono st182
      have x188 : w9.cell? ⟨w.heap.size, 0, none⟩ = some (.slice a00.1 (x0).zones.length c00.1) := cellB st182 x163
      have x189 : w9.cell? ⟨w.heap.size, 1, none⟩ = some (.slice a00.2.1 (x0).weights.length c00.2.1) := cellB st182 x164
      have x190 : w9.cell? ⟨w.heap.size, 2, none⟩ = some (.slice a00.2.2 (x0).base.length c00.2.2) := cellB st182 x165
      have l191 : w.heap.size < w9.heap.size := by omega
      have x192 : w9.cell? ⟨w.heap.size + 1, 0, none⟩ = some (.string (x1).name) := cellB st182 x167
      have x193 : w9.cell? ⟨w.heap.size + 1, 1, none⟩ = some (.slice a10 (x1).rings.length c10) := cellB st182 x168
      have l194 : w.heap.size + 1 < w9.heap.size := by omega
      have x195 : w9.cell? ⟨w.heap.size + 1 + 1, 0, none⟩ = some (.int .i64 (x2).t.a) := cellB st182 x170
      have x196 : w9.cell? ⟨w.heap.size + 1 + 1, 1, none⟩ = some (.int .i64 (x2).t.b) := cellB st182 x171
      have x197 : w9.cell? ⟨w.heap.size + 1 + 1, 2, none⟩ = some (.int .i64 (x2).t.c) := cellB st182 x172
      have x198 : w9.cell? ⟨w.heap.size + 1 + 1, 3, none⟩ = some (.int .i64 (x2).t.d) := cellB st182 x173
      have x199 : w9.cell? ⟨w.heap.size + 1 + 1, 4, none⟩ = some (.int .i64 (x2).t.e) := cellB st182 x174
      have x200 : w9.cell? ⟨w.heap.size + 1 + 1, 5, none⟩ = some (.int .i64 (x2).tol) := cellB st182 x175
      have x201 : w9.cell? ⟨w.heap.size + 1 + 1, 6, none⟩ = some (.int .i64 (x2).most) := cellB st182 x176
      have l202 : w.heap.size + 1 + 1 < w9.heap.size := by omega
      have x203 : w9.cell? ⟨w7.heap.size, 0, none⟩ = some (.slice a131.1 (x0).zones.length c132.1) := cellB st182 x178
      have x204 : w9.cell? ⟨w7.heap.size, 1, none⟩ = some (.slice a131.2.1 (x0).weights.length c132.2.1) := cellB st182 x179
      have x205 : w9.cell? ⟨w7.heap.size, 2, none⟩ = some (.slice a131.2.2 (x0).base.length c132.2.2) := cellB st182 x180
      have l206 : w7.heap.size < w9.heap.size := by omega
      have x207 : w9.cell? ⟨w8.heap.size, 0, none⟩ = some (.string (x1).name) := cellB h9 (by simp [go_sem])
      have x208 : w9.cell? ⟨w8.heap.size, 1, none⟩ = some (.slice a155 (x1).rings.length c156) := cellB h9 (by simp [go_sem])
      have l209 : w8.heap.size < w9.heap.size := by omega
      clear f159 f160 f161 f162 f157 x163 x164 x165 l166 x167 x168 l169 x170 x171 x172 x173 x174 x175 x176 l177 x178 x179 x180 l181 h9
      refine wp_region_ord [(0, true), (1, true), (2, true), (4, true), (3, false), (5, false), (6, true), (7, true), (9, true), (8, true), (10, true)] (none) (by kernel_rfl) (by kernel_rfl) ?_
      (repeat (with_reducible refine wpOrd_soft (fun K hK => ?_); simp only [List.getElem?_toArray, List.getElem?_cons_zero, List.getElem?_cons_succ]; first | (go_simp; refine hK _ ?_) | (simp only [undef]; go_simp; refine hK _ ?_); clear hK K))
      (with_reducible refine wpOrd_hard ?_; simp only [List.getElem?_toArray, List.getElem?_cons_zero, List.getElem?_cons_succ])
      go_wp2_with fail
      refine (toGoalR _ (x2) _ (rdGoal _ _)).mono ?_
      rintro e w10 ⟨rfl, h10⟩
      have st210 : Below w9.heap.size w9 w10 := undrew h10
      have sz10 : w9.heap.size ≤ w10.heap.size := st210.size
      have bw10 : Below w.heap.size w w10 := bw9.trans (st210.mono bw9.size)
      have f211 := f183.mono st210
      have f212 := f184.mono st210
      have f213 := f185.mono st210
      have f214 := f186.mono st210
      have f215 := f187.mono st210
      have x216 : w10.cell? ⟨w.heap.size, 0, none⟩ = some (.slice a00.1 (x0).zones.length c00.1) := cellB st210 x188
      have x217 : w10.cell? ⟨w.heap.size, 1, none⟩ = some (.slice a00.2.1 (x0).weights.length c00.2.1) := cellB st210 x189
      have x218 : w10.cell? ⟨w.heap.size, 2, none⟩ = some (.slice a00.2.2 (x0).base.length c00.2.2) := cellB st210 x190
      have l219 : w.heap.size < w10.heap.size := by omega
      have x220 : w10.cell? ⟨w.heap.size + 1, 0, none⟩ = some (.string (x1).name) := cellB st210 x192
      have x221 : w10.cell? ⟨w.heap.size + 1, 1, none⟩ = some (.slice a10 (x1).rings.length c10) := cellB st210 x193
      have l222 : w.heap.size + 1 < w10.heap.size := by omega
      have x223 : w10.cell? ⟨w.heap.size + 1 + 1, 0, none⟩ = some (.int .i64 (x2).t.a) := cellB st210 x195
      have x224 : w10.cell? ⟨w.heap.size + 1 + 1, 1, none⟩ = some (.int .i64 (x2).t.b) := cellB st210 x196
      have x225 : w10.cell? ⟨w.heap.size + 1 + 1, 2, none⟩ = some (.int .i64 (x2).t.c) := cellB st210 x197
      have x226 : w10.cell? ⟨w.heap.size + 1 + 1, 3, none⟩ = some (.int .i64 (x2).t.d) := cellB st210 x198
      have x227 : w10.cell? ⟨w.heap.size + 1 + 1, 4, none⟩ = some (.int .i64 (x2).t.e) := cellB st210 x199
      have x228 : w10.cell? ⟨w.heap.size + 1 + 1, 5, none⟩ = some (.int .i64 (x2).tol) := cellB st210 x200
      have x229 : w10.cell? ⟨w.heap.size + 1 + 1, 6, none⟩ = some (.int .i64 (x2).most) := cellB st210 x201
      have l230 : w.heap.size + 1 + 1 < w10.heap.size := by omega
      have x231 : w10.cell? ⟨w7.heap.size, 0, none⟩ = some (.slice a131.1 (x0).zones.length c132.1) := cellB st210 x203
      have x232 : w10.cell? ⟨w7.heap.size, 1, none⟩ = some (.slice a131.2.1 (x0).weights.length c132.2.1) := cellB st210 x204
      have x233 : w10.cell? ⟨w7.heap.size, 2, none⟩ = some (.slice a131.2.2 (x0).base.length c132.2.2) := cellB st210 x205
      have l234 : w7.heap.size < w10.heap.size := by omega
      have x235 : w10.cell? ⟨w8.heap.size, 0, none⟩ = some (.string (x1).name) := cellB st210 x207
      have x236 : w10.cell? ⟨w8.heap.size, 1, none⟩ = some (.slice a155 (x1).rings.length c156) := cellB st210 x208
      have l237 : w8.heap.size < w10.heap.size := by omega
      clear f183 f184 f185 f186 f187 x188 x189 x190 l191 x192 x193 l194 x195 x196 x197 x198 x199 x200 x201 l202 x203 x204 x205 l206 x207 x208 l209 h10
      go_wp2_with fail
      refine ⟨grown_of_below st210, ?_⟩
      (repeat (with_reducible refine wpOrd_soft (fun K hK => ?_); simp only [List.getElem?_toArray, List.getElem?_cons_zero, List.getElem?_cons_succ]; first | (go_simp; refine hK _ ?_) | (simp only [undef]; go_simp; refine hK _ ?_); clear hK K))
      (with_reducible refine wpOrd_hard ?_; simp only [List.getElem?_toArray, List.getElem?_cons_zero, List.getElem?_cons_succ])
      go_wp2_with fail
      refine (implShortestPlan_any _ (x0) _ (x1) _ (x2) (n3) _ (OwnModD.rd f214) o0 q0 (OwnPrf.rd f215) o1 q1 (rdGoal _ _) o2 q2 o3).mono ?_
      rintro e w11 ⟨v238, rfl, ho239, h11⟩
      obtain ⟨a240, c241, rfl⟩ := ho239.form
      have f242 : OwnCutDs w10.heap.size w11.heap.size w11 (.slice a240 (spV (x0) (x1) (x2) (n3)).length c241) (spV (x0) (x1) (x2) (n3)) := ho239
      clear ho239
      have sz11 : w10.heap.size ≤ w11.heap.size := h11.size
      have bw11 : Below w.heap.size w w11 := bw10.trans (h11.mono bw10.size)
      have f244 := f211.mono h11
      have f245 := f212.mono h11
      have f246 := f213.mono h11
      have f247 := f214.mono h11
      have f248 := f215.mono h11
      have x249 : w11.cell? ⟨w.heap.size, 0, none⟩ = some (.slice a00.1 (x0).zones.length c00.1) := cellB h11 x216
      have x250 : w11.cell? ⟨w.heap.size, 1, none⟩ = some (.slice a00.2.1 (x0).weights.length c00.2.1) := cellB h11 x217
      have x251 : w11.cell? ⟨w.heap.size, 2, none⟩ = some (.slice a00.2.2 (x0).base.length c00.2.2) := cellB h11 x218
      have l252 : w.heap.size < w11.heap.size := by omega
      have x253 : w11.cell? ⟨w.heap.size + 1, 0, none⟩ = some (.string (x1).name) := cellB h11 x220
      have x254 : w11.cell? ⟨w.heap.size + 1, 1, none⟩ = some (.slice a10 (x1).rings.length c10) := cellB h11 x221
      have l255 : w.heap.size + 1 < w11.heap.size := by omega
      have x256 : w11.cell? ⟨w.heap.size + 1 + 1, 0, none⟩ = some (.int .i64 (x2).t.a) := cellB h11 x223
      have x257 : w11.cell? ⟨w.heap.size + 1 + 1, 1, none⟩ = some (.int .i64 (x2).t.b) := cellB h11 x224
      have x258 : w11.cell? ⟨w.heap.size + 1 + 1, 2, none⟩ = some (.int .i64 (x2).t.c) := cellB h11 x225
      have x259 : w11.cell? ⟨w.heap.size + 1 + 1, 3, none⟩ = some (.int .i64 (x2).t.d) := cellB h11 x226
      have x260 : w11.cell? ⟨w.heap.size + 1 + 1, 4, none⟩ = some (.int .i64 (x2).t.e) := cellB h11 x227
      have x261 : w11.cell? ⟨w.heap.size + 1 + 1, 5, none⟩ = some (.int .i64 (x2).tol) := cellB h11 x228
      have x262 : w11.cell? ⟨w.heap.size + 1 + 1, 6, none⟩ = some (.int .i64 (x2).most) := cellB h11 x229
      have l263 : w.heap.size + 1 + 1 < w11.heap.size := by omega
      have x264 : w11.cell? ⟨w7.heap.size, 0, none⟩ = some (.slice a131.1 (x0).zones.length c132.1) := cellB h11 x231
      have x265 : w11.cell? ⟨w7.heap.size, 1, none⟩ = some (.slice a131.2.1 (x0).weights.length c132.2.1) := cellB h11 x232
      have x266 : w11.cell? ⟨w7.heap.size, 2, none⟩ = some (.slice a131.2.2 (x0).base.length c132.2.2) := cellB h11 x233
      have l267 : w7.heap.size < w11.heap.size := by omega
      have x268 : w11.cell? ⟨w8.heap.size, 0, none⟩ = some (.string (x1).name) := cellB h11 x235
      have x269 : w11.cell? ⟨w8.heap.size, 1, none⟩ = some (.slice a155 (x1).rings.length c156) := cellB h11 x236
      have l270 : w8.heap.size < w11.heap.size := by omega
      clear f211 f212 f213 f214 f215 x216 x217 x218 l219 x220 x221 l222 x223 x224 x225 x226 x227 x228 x229 l230 x231 x232 x233 l234 x235 x236 l237
      have rg271 : Below w9.heap.size w9 w11 := st210.trans (h11.mono st210.size)
      go_wp2_with fail
      refine ⟨grown_of_below rg271, ?_⟩
      (repeat (with_reducible refine wpOrd_soft (fun K hK => ?_); simp only [List.getElem?_toArray, List.getElem?_cons_zero, List.getElem?_cons_succ]; first | (go_simp; refine hK _ ?_) | (simp only [undef]; go_simp; refine hK _ ?_); clear hK K))
      (with_reducible refine wpOrd_nil ?_); refine NoPanic.normal ?_
      go_wp2_with fail
      refine (eqCutDsK _ _ (spV (x0) (x1) (x2) (n3)) _ (OwnCutDs.rd f242) (OwnCutDs.rd f246)).mono ?_
      rintro e w12 ⟨rfl, h12⟩
      have sz12 : w11.heap.size ≤ w12.heap.size := h12.size
      have bw12 : Below w.heap.size w w12 := bw11.trans (h12.mono bw11.size)
      have f273 := f244.mono h12
      have f274 := f245.mono h12
      have f275 := f246.mono h12
      have f276 := f247.mono h12
      have f277 := f248.mono h12
      have f278 := f242.mono h12
      have x279 : w12.cell? ⟨w.heap.size, 0, none⟩ = some (.slice a00.1 (x0).zones.length c00.1) := cellB h12 x249
      have x280 : w12.cell? ⟨w.heap.size, 1, none⟩ = some (.slice a00.2.1 (x0).weights.length c00.2.1) := cellB h12 x250
      have x281 : w12.cell? ⟨w.heap.size, 2, none⟩ = some (.slice a00.2.2 (x0).base.length c00.2.2) := cellB h12 x251
      have l282 : w.heap.size < w12.heap.size := by omega
      have x283 : w12.cell? ⟨w.heap.size + 1, 0, none⟩ = some (.string (x1).name) := cellB h12 x253
      have x284 : w12.cell? ⟨w.heap.size + 1, 1, none⟩ = some (.slice a10 (x1).rings.length c10) := cellB h12 x254
      have l285 : w.heap.size + 1 < w12.heap.size := by omega
      have x286 : w12.cell? ⟨w.heap.size + 1 + 1, 0, none⟩ = some (.int .i64 (x2).t.a) := cellB h12 x256
      have x287 : w12.cell? ⟨w.heap.size + 1 + 1, 1, none⟩ = some (.int .i64 (x2).t.b) := cellB h12 x257
      have x288 : w12.cell? ⟨w.heap.size + 1 + 1, 2, none⟩ = some (.int .i64 (x2).t.c) := cellB h12 x258
      have x289 : w12.cell? ⟨w.heap.size + 1 + 1, 3, none⟩ = some (.int .i64 (x2).t.d) := cellB h12 x259
      have x290 : w12.cell? ⟨w.heap.size + 1 + 1, 4, none⟩ = some (.int .i64 (x2).t.e) := cellB h12 x260
      have x291 : w12.cell? ⟨w.heap.size + 1 + 1, 5, none⟩ = some (.int .i64 (x2).tol) := cellB h12 x261
      have x292 : w12.cell? ⟨w.heap.size + 1 + 1, 6, none⟩ = some (.int .i64 (x2).most) := cellB h12 x262
      have l293 : w.heap.size + 1 + 1 < w12.heap.size := by omega
      have x294 : w12.cell? ⟨w7.heap.size, 0, none⟩ = some (.slice a131.1 (x0).zones.length c132.1) := cellB h12 x264
      have x295 : w12.cell? ⟨w7.heap.size, 1, none⟩ = some (.slice a131.2.1 (x0).weights.length c132.2.1) := cellB h12 x265
      have x296 : w12.cell? ⟨w7.heap.size, 2, none⟩ = some (.slice a131.2.2 (x0).base.length c132.2.2) := cellB h12 x266
      have l297 : w7.heap.size < w12.heap.size := by omega
      have x298 : w12.cell? ⟨w8.heap.size, 0, none⟩ = some (.string (x1).name) := cellB h12 x268
      have x299 : w12.cell? ⟨w8.heap.size, 1, none⟩ = some (.slice a155 (x1).rings.length c156) := cellB h12 x269
      have l300 : w8.heap.size < w12.heap.size := by omega
      clear f244 f245 f246 f247 f248 f242 x249 x250 x251 l252 x253 x254 l255 x256 x257 x258 x259 x260 x261 x262 l263 x264 x265 x266 l267 x268 x269 l270
      go_wp2_with fail
      refine wp_region_ord [(0, true), (1, true), (2, false), (3, false), (4, true)] (none) (by kernel_rfl) (by kernel_rfl) ?_
      (repeat (with_reducible refine wpOrd_soft (fun K hK => ?_); simp only [List.getElem?_toArray, List.getElem?_cons_zero, List.getElem?_cons_succ]; first | (go_simp; refine hK _ ?_) | (simp only [undef]; go_simp; refine hK _ ?_); clear hK K))
      (with_reducible refine wpOrd_hard ?_; simp only [List.getElem?_toArray, List.getElem?_cons_zero, List.getElem?_cons_succ])
      go_wp2_with fail
      refine (toModDK _ (x0) _ (r0.mono (by have hbw := bw12; (repeat (first | with_reducible exact Below.refl _ _ | with_reducible exact hbw | (with_reducible refine Below.setCell ?_ ?_ _; rotate_left; · first | exact Nat.le_refl _ | omega | (simp; done) | (simp; omega)) | (with_reducible refine Below.alloc ?_ ?_ _; rotate_left; · first | exact Nat.le_refl _ | omega | (simp; done) | (simp; omega)) | with_reducible refine below_drewN ?_ _ | with_reducible refine Below.drew ?_)))) q0).mono ?_
      rintro e w13 ⟨v301, rfl, ho302, h13⟩
      obtain ⟨a303, c304, rfl⟩ := ho302.form2
      have f305 : OwnModD w12.heap.size w13.heap.size w13 (.agg #[.slice a303.1 (x0).zones.length c304.1, .slice a303.2.1 (x0).weights.length c304.2.1, .slice a303.2.2 (x0).base.length c304.2.2]) (x0) := ho302
      clear ho302
      have st306 : Below w12.heap.size w12 w13 := undrew h13
      have sz13 : w12.heap.size ≤ w13.heap.size := st306.size
      have bw13 : Below w.heap.size w w13 := bw12.trans (st306.mono bw12.size)
      have f307 := f273.mono st306
      have f308 := f274.mono st306
      have f309 := f275.mono st306
      have f310 := f276.mono st306
      have f311 := f277.mono st306
      have f312 := f278.mono st306
      have x313 : w13.cell? ⟨w.heap.size, 0, none⟩ = some (.slice a00.1 (x0).zones.length c00.1) := cellB st306 x279
      have x314 : w13.cell? ⟨w.heap.size, 1, none⟩ = some (.slice a00.2.1 (x0).weights.length c00.2.1) := cellB st306 x280
      have x315 : w13.cell? ⟨w.heap.size, 2, none⟩ = some (.slice a00.2.2 (x0).base.length c00.2.2) := cellB st306 x281
      have l316 : w.heap.size < w13.heap.size := by omega
      have x317 : w13.cell? ⟨w.heap.size + 1, 0, none⟩ = some (.string (x1).name) := cellB st306 x283
      have x318 : w13.cell? ⟨w.heap.size + 1, 1, none⟩ = some (.slice a10 (x1).rings.length c10) := cellB st306 x284
      have l319 : w.heap.size + 1 < w13.heap.size := by omega
      have x320 : w13.cell? ⟨w.heap.size + 1 + 1, 0, none⟩ = some (.int .i64 (x2).t.a) := cellB st306 x286
      have x321 : w13.cell? ⟨w.heap.size + 1 + 1, 1, none⟩ = some (.int .i64 (x2).t.b) := cellB st306 x287
      have x322 : w13.cell? ⟨w.heap.size + 1 + 1, 2, none⟩ = some (.int .i64 (x2).t.c) := cellB st306 x288
      have x323 : w13.cell? ⟨w.heap.size + 1 + 1, 3, none⟩ = some (.int .i64 (x2).t.d) := cellB st306 x289
      have x324 : w13.cell? ⟨w.heap.size + 1 + 1, 4, none⟩ = some (.int .i64 (x2).t.e) := cellB st306 x290
      have x325 : w13.cell? ⟨w.heap.size + 1 + 1, 5, none⟩ = some (.int .i64 (x2).tol) := cellB st306 x291
      have x326 : w13.cell? ⟨w.heap.size + 1 + 1, 6, none⟩ = some (.int .i64 (x2).most) := cellB st306 x292
      have l327 : w.heap.size + 1 + 1 < w13.heap.size := by omega
      have x328 : w13.cell? ⟨w7.heap.size, 0, none⟩ = some (.slice a131.1 (x0).zones.length c132.1) := cellB st306 x294
      have x329 : w13.cell? ⟨w7.heap.size, 1, none⟩ = some (.slice a131.2.1 (x0).weights.length c132.2.1) := cellB st306 x295
      have x330 : w13.cell? ⟨w7.heap.size, 2, none⟩ = some (.slice a131.2.2 (x0).base.length c132.2.2) := cellB st306 x296
      have l331 : w7.heap.size < w13.heap.size := by omega
      have x332 : w13.cell? ⟨w8.heap.size, 0, none⟩ = some (.string (x1).name) := cellB st306 x298
      have x333 : w13.cell? ⟨w8.heap.size, 1, none⟩ = some (.slice a155 (x1).rings.length c156) := cellB st306 x299
      have l334 : w8.heap.size < w13.heap.size := by omega
      clear f273 f274 f275 f276 f277 f278 x279 x280 x281 l282 x283 x284 l285 x286 x287 x288 x289 x290 x291 x292 l293 x294 x295 x296 l297 x298 x299 l300 h13
      go_wp2_with fail
      refine ⟨grown_of_below st306, ?_⟩
      (repeat (with_reducible refine wpOrd_soft (fun K hK => ?_); simp only [List.getElem?_toArray, List.getElem?_cons_zero, List.getElem?_cons_succ]; first | (go_simp; refine hK _ ?_) | (simp only [undef]; go_simp; refine hK _ ?_); clear hK K))
      (with_reducible refine wpOrd_hard ?_; simp only [List.getElem?_toArray, List.getElem?_cons_zero, List.getElem?_cons_succ])
      go_wp2_with fail
      refine (eqModDK _ _ (x0) _ (OwnModD.rd f310) (OwnModD.rd f305)).mono ?_
      rintro e w14 ⟨rfl, h14⟩
      have sz14 : w13.heap.size ≤ w14.heap.size := h14.size
      have bw14 : Below w.heap.size w w14 := bw13.trans (h14.mono bw13.size)
      have f336 := f307.mono h14
      have f337 := f308.mono h14
      have f338 := f309.mono h14
      have f339 := f310.mono h14
      have f340 := f311.mono h14
      have f341 := f312.mono h14
      have f342 := f305.mono h14
      have x343 : w14.cell? ⟨w.heap.size, 0, none⟩ = some (.slice a00.1 (x0).zones.length c00.1) := cellB h14 x313
      have x344 : w14.cell? ⟨w.heap.size, 1, none⟩ = some (.slice a00.2.1 (x0).weights.length c00.2.1) := cellB h14 x314
      have x345 : w14.cell? ⟨w.heap.size, 2, none⟩ = some (.slice a00.2.2 (x0).base.length c00.2.2) := cellB h14 x315
      have l346 : w.heap.size < w14.heap.size := by omega
      have x347 : w14.cell? ⟨w.heap.size + 1, 0, none⟩ = some (.string (x1).name) := cellB h14 x317
      have x348 : w14.cell? ⟨w.heap.size + 1, 1, none⟩ = some (.slice a10 (x1).rings.length c10) := cellB h14 x318
      have l349 : w.heap.size + 1 < w14.heap.size := by omega
      have x350 : w14.cell? ⟨w.heap.size + 1 + 1, 0, none⟩ = some (.int .i64 (x2).t.a) := cellB h14 x320
      have x351 : w14.cell? ⟨w.heap.size + 1 + 1, 1, none⟩ = some (.int .i64 (x2).t.b) := cellB h14 x321
      have x352 : w14.cell? ⟨w.heap.size + 1 + 1, 2, none⟩ = some (.int .i64 (x2).t.c) := cellB h14 x322
      have x353 : w14.cell? ⟨w.heap.size + 1 + 1, 3, none⟩ = some (.int .i64 (x2).t.d) := cellB h14 x323
      have x354 : w14.cell? ⟨w.heap.size + 1 + 1, 4, none⟩ = some (.int .i64 (x2).t.e) := cellB h14 x324
      have x355 : w14.cell? ⟨w.heap.size + 1 + 1, 5, none⟩ = some (.int .i64 (x2).tol) := cellB h14 x325
      have x356 : w14.cell? ⟨w.heap.size + 1 + 1, 6, none⟩ = some (.int .i64 (x2).most) := cellB h14 x326
      have l357 : w.heap.size + 1 + 1 < w14.heap.size := by omega
      have x358 : w14.cell? ⟨w7.heap.size, 0, none⟩ = some (.slice a131.1 (x0).zones.length c132.1) := cellB h14 x328
      have x359 : w14.cell? ⟨w7.heap.size, 1, none⟩ = some (.slice a131.2.1 (x0).weights.length c132.2.1) := cellB h14 x329
      have x360 : w14.cell? ⟨w7.heap.size, 2, none⟩ = some (.slice a131.2.2 (x0).base.length c132.2.2) := cellB h14 x330
      have l361 : w7.heap.size < w14.heap.size := by omega
      have x362 : w14.cell? ⟨w8.heap.size, 0, none⟩ = some (.string (x1).name) := cellB h14 x332
      have x363 : w14.cell? ⟨w8.heap.size, 1, none⟩ = some (.slice a155 (x1).rings.length c156) := cellB h14 x333
      have l364 : w8.heap.size < w14.heap.size := by omega
      clear f307 f308 f309 f310 f311 f312 f305 x313 x314 x315 l316 x317 x318 l319 x320 x321 x322 x323 x324 x325 x326 l327 x328 x329 x330 l331 x332 x333 l334
      have rg365 : Below w12.heap.size w12 w14 := st306.trans (h14.mono st306.size)
      go_wp2_with fail
      refine ⟨grown_of_below rg365, ?_⟩
      (repeat (with_reducible refine wpOrd_soft (fun K hK => ?_); simp only [List.getElem?_toArray, List.getElem?_cons_zero, List.getElem?_cons_succ]; first | (go_simp; refine hK _ ?_) | (simp only [undef]; go_simp; refine hK _ ?_); clear hK K))
      (with_reducible refine wpOrd_nil ?_); refine NoPanic.normal ?_
      go_wp2_with fail
      refine wp_region_ord [(0, true), (1, true), (2, false), (3, false), (4, true)] (none) (by kernel_rfl) (by kernel_rfl) ?_
      (repeat (with_reducible refine wpOrd_soft (fun K hK => ?_); simp only [List.getElem?_toArray, List.getElem?_cons_zero, List.getElem?_cons_succ]; first | (go_simp; refine hK _ ?_) | (simp only [undef]; go_simp; refine hK _ ?_); clear hK K))
      (with_reducible refine wpOrd_hard ?_; simp only [List.getElem?_toArray, List.getElem?_cons_zero, List.getElem?_cons_succ])
      go_wp2_with fail
      refine (toPrfZ _ (x1) _ (r1.mono (by have hbw := bw14; (repeat (first | with_reducible exact Below.refl _ _ | with_reducible exact hbw | (with_reducible refine Below.setCell ?_ ?_ _; rotate_left; · first | exact Nat.le_refl _ | omega | (simp; done) | (simp; omega)) | (with_reducible refine Below.alloc ?_ ?_ _; rotate_left; · first | exact Nat.le_refl _ | omega | (simp; done) | (simp; omega)) | with_reducible refine below_drewN ?_ _ | with_reducible refine Below.drew ?_)))) q1).mono ?_
      rintro e w15 ⟨v366, rfl, ho367, h15⟩
      obtain ⟨a368, c369, rfl⟩ := ho367.form
      have f370 : OwnPrf w14.heap.size w15.heap.size w15 (.agg #[.string (x1).name, .slice a368 (x1).rings.length c369]) (x1) := ho367
      clear ho367
      have st371 : Below w14.heap.size w14 w15 := undrew h15
      have sz15 : w14.heap.size ≤ w15.heap.size := st371.size
      have bw15 : Below w.heap.size w w15 := bw14.trans (st371.mono bw14.size)
      have f372 := f336.mono st371
      have f373 := f337.mono st371
      have f374 := f338.mono st371
      have f375 := f339.mono st371
      have f376 := f340.mono st371
      have f377 := f341.mono st371
      have f378 := f342.mono st371
      have x379 : w15.cell? ⟨w.heap.size, 0, none⟩ = some (.slice a00.1 (x0).zones.length c00.1) := cellB st371 x343
      have x380 : w15.cell? ⟨w.heap.size, 1, none⟩ = some (.slice a00.2.1 (x0).weights.length c00.2.1) := cellB st371 x344
      have x381 : w15.cell? ⟨w.heap.size, 2, none⟩ = some (.slice a00.2.2 (x0).base.length c00.2.2) := cellB st371 x345
      have l382 : w.heap.size < w15.heap.size := by omega
      have x383 : w15.cell? ⟨w.heap.size + 1, 0, none⟩ = some (.string (x1).name) := cellB st371 x347
      have x384 : w15.cell? ⟨w.heap.size + 1, 1, none⟩ = some (.slice a10 (x1).rings.length c10) := cellB st371 x348
      have l385 : w.heap.size + 1 < w15.heap.size := by omega
      have x386 : w15.cell? ⟨w.heap.size + 1 + 1, 0, none⟩ = some (.int .i64 (x2).t.a) := cellB st371 x350
      have x387 : w15.cell? ⟨w.heap.size + 1 + 1, 1, none⟩ = some (.int .i64 (x2).t.b) := cellB st371 x351
      have x388 : w15.cell? ⟨w.heap.size + 1 + 1, 2, none⟩ = some (.int .i64 (x2).t.c) := cellB st371 x352
      have x389 : w15.cell? ⟨w.heap.size + 1 + 1, 3, none⟩ = some (.int .i64 (x2).t.d) := cellB st371 x353
      have x390 : w15.cell? ⟨w.heap.size + 1 + 1, 4, none⟩ = some (.int .i64 (x2).t.e) := cellB st371 x354
      have x391 : w15.cell? ⟨w.heap.size + 1 + 1, 5, none⟩ = some (.int .i64 (x2).tol) := cellB st371 x355
      have x392 : w15.cell? ⟨w.heap.size + 1 + 1, 6, none⟩ = some (.int .i64 (x2).most) := cellB st371 x356
      have l393 : w.heap.size + 1 + 1 < w15.heap.size := by omega
      have x394 : w15.cell? ⟨w7.heap.size, 0, none⟩ = some (.slice a131.1 (x0).zones.length c132.1) := cellB st371 x358
      have x395 : w15.cell? ⟨w7.heap.size, 1, none⟩ = some (.slice a131.2.1 (x0).weights.length c132.2.1) := cellB st371 x359
      have x396 : w15.cell? ⟨w7.heap.size, 2, none⟩ = some (.slice a131.2.2 (x0).base.length c132.2.2) := cellB st371 x360
      have l397 : w7.heap.size < w15.heap.size := by omega
      have x398 : w15.cell? ⟨w8.heap.size, 0, none⟩ = some (.string (x1).name) := cellB st371 x362
      have x399 : w15.cell? ⟨w8.heap.size, 1, none⟩ = some (.slice a155 (x1).rings.length c156) := cellB st371 x363
      have l400 : w8.heap.size < w15.heap.size := by omega
      clear f336 f337 f338 f339 f340 f341 f342 x343 x344 x345 l346 x347 x348 l349 x350 x351 x352 x353 x354 x355 x356 l357 x358 x359 x360 l361 x362 x363 l364 h15
      go_wp2_with fail
      refine ⟨grown_of_below st371, ?_⟩
      (repeat (with_reducible refine wpOrd_soft (fun K hK => ?_); simp only [List.getElem?_toArray, List.getElem?_cons_zero, List.getElem?_cons_succ]; first | (go_simp; refine hK _ ?_) | (simp only [undef]; go_simp; refine hK _ ?_); clear hK K))
      (with_reducible refine wpOrd_hard ?_; simp only [List.getElem?_toArray, List.getElem?_cons_zero, List.getElem?_cons_succ])
      go_wp2_with fail
      refine (eqPrfK _ _ (x1) _ (OwnPrf.rd f376) (OwnPrf.rd f370)).mono ?_
      rintro e w16 ⟨rfl, h16⟩
      have sz16 : w15.heap.size ≤ w16.heap.size := h16.size
      have bw16 : Below w.heap.size w w16 := bw15.trans (h16.mono bw15.size)
      have f402 := f372.mono h16
      have f403 := f373.mono h16
      have f404 := f374.mono h16
      have f405 := f375.mono h16
      have f406 := f376.mono h16
      have f407 := f377.mono h16
      have f408 := f378.mono h16
      have f409 := f370.mono h16
      have x410 : w16.cell? ⟨w.heap.size, 0, none⟩ = some (.slice a00.1 (x0).zones.length c00.1) := cellB h16 x379
      have x411 : w16.cell? ⟨w.heap.size, 1, none⟩ = some (.slice a00.2.1 (x0).weights.length c00.2.1) := cellB h16 x380
      have x412 : w16.cell? ⟨w.heap.size, 2, none⟩ = some (.slice a00.2.2 (x0).base.length c00.2.2) := cellB h16 x381
      have l413 : w.heap.size < w16.heap.size := by omega
      have x414 : w16.cell? ⟨w.heap.size + 1, 0, none⟩ = some (.string (x1).name) := cellB h16 x383
      have x415 : w16.cell? ⟨w.heap.size + 1, 1, none⟩ = some (.slice a10 (x1).rings.length c10) := cellB h16 x384
      have l416 : w.heap.size + 1 < w16.heap.size := by omega
      have x417 : w16.cell? ⟨w.heap.size + 1 + 1, 0, none⟩ = some (.int .i64 (x2).t.a) := cellB h16 x386
      have x418 : w16.cell? ⟨w.heap.size + 1 + 1, 1, none⟩ = some (.int .i64 (x2).t.b) := cellB h16 x387
      have x419 : w16.cell? ⟨w.heap.size + 1 + 1, 2, none⟩ = some (.int .i64 (x2).t.c) := cellB h16 x388
      have x420 : w16.cell? ⟨w.heap.size + 1 + 1, 3, none⟩ = some (.int .i64 (x2).t.d) := cellB h16 x389
      have x421 : w16.cell? ⟨w.heap.size + 1 + 1, 4, none⟩ = some (.int .i64 (x2).t.e) := cellB h16 x390
      have x422 : w16.cell? ⟨w.heap.size + 1 + 1, 5, none⟩ = some (.int .i64 (x2).tol) := cellB h16 x391
      have x423 : w16.cell? ⟨w.heap.size + 1 + 1, 6, none⟩ = some (.int .i64 (x2).most) := cellB h16 x392
      have l424 : w.heap.size + 1 + 1 < w16.heap.size := by omega
      have x425 : w16.cell? ⟨w7.heap.size, 0, none⟩ = some (.slice a131.1 (x0).zones.length c132.1) := cellB h16 x394
      have x426 : w16.cell? ⟨w7.heap.size, 1, none⟩ = some (.slice a131.2.1 (x0).weights.length c132.2.1) := cellB h16 x395
      have x427 : w16.cell? ⟨w7.heap.size, 2, none⟩ = some (.slice a131.2.2 (x0).base.length c132.2.2) := cellB h16 x396
      have l428 : w7.heap.size < w16.heap.size := by omega
      have x429 : w16.cell? ⟨w8.heap.size, 0, none⟩ = some (.string (x1).name) := cellB h16 x398
      have x430 : w16.cell? ⟨w8.heap.size, 1, none⟩ = some (.slice a155 (x1).rings.length c156) := cellB h16 x399
      have l431 : w8.heap.size < w16.heap.size := by omega
      clear f372 f373 f374 f375 f376 f377 f378 f370 x379 x380 x381 l382 x383 x384 l385 x386 x387 x388 x389 x390 x391 x392 l393 x394 x395 x396 l397 x398 x399 l400
      have rg432 : Below w14.heap.size w14 w16 := st371.trans (h16.mono st371.size)
      go_wp2_with fail
      refine ⟨grown_of_below rg432, ?_⟩
      (repeat (with_reducible refine wpOrd_soft (fun K hK => ?_); simp only [List.getElem?_toArray, List.getElem?_cons_zero, List.getElem?_cons_succ]; first | (go_simp; refine hK _ ?_) | (simp only [undef]; go_simp; refine hK _ ?_); clear hK K))
      (with_reducible refine wpOrd_nil ?_); refine NoPanic.normal ?_
      go_wp2_with fail
      refine (markModDK _ _ _ (x0) (1) _ f405 (by omega) (by have := (sizeModD_bd q0); omega)).mono ?_
      rintro e w17 ⟨rfl, f433, t17⟩
      have sz17 : w16.heap.size ≤ w17.heap.size := t17.size
      have bw17 : Below w.heap.size w w17 := t17.below bw16 (by omega) (by omega)
      have f435 := f402.touch t17 (by omega)
      have f436 := f403.touch t17 (by omega)
      have f437 := f404.touch t17 (by omega)
      have f439 := f406.touch t17 (by omega)
      have f440 := f407.touch t17 (by omega)
      have f441 := f408.touch t17 (by omega)
      have f442 := f409.touch t17 (by omega)
      have x443 : w17.cell? ⟨w.heap.size, 0, none⟩ = some (.slice a00.1 (x0).zones.length c00.1) := cellT t17 x410 (by simp only; omega)
      have x444 : w17.cell? ⟨w.heap.size, 1, none⟩ = some (.slice a00.2.1 (x0).weights.length c00.2.1) := cellT t17 x411 (by simp only; omega)
      have x445 : w17.cell? ⟨w.heap.size, 2, none⟩ = some (.slice a00.2.2 (x0).base.length c00.2.2) := cellT t17 x412 (by simp only; omega)
      have l446 : w.heap.size < w17.heap.size := by omega
      have x447 : w17.cell? ⟨w.heap.size + 1, 0, none⟩ = some (.string (x1).name) := cellT t17 x414 (by simp only; omega)
      have x448 : w17.cell? ⟨w.heap.size + 1, 1, none⟩ = some (.slice a10 (x1).rings.length c10) := cellT t17 x415 (by simp only; omega)
      have l449 : w.heap.size + 1 < w17.heap.size := by omega
      have x450 : w17.cell? ⟨w.heap.size + 1 + 1, 0, none⟩ = some (.int .i64 (x2).t.a) := cellT t17 x417 (by simp only; omega)
      have x451 : w17.cell? ⟨w.heap.size + 1 + 1, 1, none⟩ = some (.int .i64 (x2).t.b) := cellT t17 x418 (by simp only; omega)
      have x452 : w17.cell? ⟨w.heap.size + 1 + 1, 2, none⟩ = some (.int .i64 (x2).t.c) := cellT t17 x419 (by simp only; omega)
      have x453 : w17.cell? ⟨w.heap.size + 1 + 1, 3, none⟩ = some (.int .i64 (x2).t.d) := cellT t17 x420 (by simp only; omega)
      have x454 : w17.cell? ⟨w.heap.size + 1 + 1, 4, none⟩ = some (.int .i64 (x2).t.e) := cellT t17 x421 (by simp only; omega)
      have x455 : w17.cell? ⟨w.heap.size + 1 + 1, 5, none⟩ = some (.int .i64 (x2).tol) := cellT t17 x422 (by simp only; omega)
      have x456 : w17.cell? ⟨w.heap.size + 1 + 1, 6, none⟩ = some (.int .i64 (x2).most) := cellT t17 x423 (by simp only; omega)
      have l457 : w.heap.size + 1 + 1 < w17.heap.size := by omega
      have x458 : w17.cell? ⟨w7.heap.size, 0, none⟩ = some (.slice a131.1 (x0).zones.length c132.1) := cellT t17 x425 (by simp only; omega)
      have x459 : w17.cell? ⟨w7.heap.size, 1, none⟩ = some (.slice a131.2.1 (x0).weights.length c132.2.1) := cellT t17 x426 (by simp only; omega)
      have x460 : w17.cell? ⟨w7.heap.size, 2, none⟩ = some (.slice a131.2.2 (x0).base.length c132.2.2) := cellT t17 x427 (by simp only; omega)
      have l461 : w7.heap.size < w17.heap.size := by omega
      have x462 : w17.cell? ⟨w8.heap.size, 0, none⟩ = some (.string (x1).name) := cellT t17 x429 (by simp only; omega)
      have x463 : w17.cell? ⟨w8.heap.size, 1, none⟩ = some (.slice a155 (x1).rings.length c156) := cellT t17 x430 (by simp only; omega)
      have l464 : w8.heap.size < w17.heap.size := by omega
      clear f402 f403 f404 f406 f407 f408 f409 x410 x411 x412 l413 x414 x415 l416 x417 x418 x419 x420 x421 x422 x423 l424 x425 x426 x427 l428 x429 x430 l431
      clear f405
      go_wp2_with fail
      refine (markPrfK _ _ _ (x1) (1 + sizeModD (x0)) _ f439 (by omega) (by have := (szPrf_bd q1); omega)).mono ?_
      rintro e w18 ⟨rfl, f465, t18⟩
      have sz18 : w17.heap.size ≤ w18.heap.size := t18.size
      have bw18 : Below w.heap.size w w18 := t18.below bw17 (by omega) (by omega)
      have f467 := f435.touch t18 (by omega)
      have f468 := f436.touch t18 (by omega)
      have f469 := f437.touch t18 (by omega)
      have f470 := f433.touch t18 (by omega)
      have f472 := f440.touch t18 (by omega)
      have f473 := f441.touch t18 (by omega)
      have f474 := f442.touch t18 (by omega)
      have x475 : w18.cell? ⟨w.heap.size, 0, none⟩ = some (.slice a00.1 (x0).zones.length c00.1) := cellT t18 x443 (by simp only; omega)
      have x476 : w18.cell? ⟨w.heap.size, 1, none⟩ = some (.slice a00.2.1 (x0).weights.length c00.2.1) := cellT t18 x444 (by simp only; omega)
      have x477 : w18.cell? ⟨w.heap.size, 2, none⟩ = some (.slice a00.2.2 (x0).base.length c00.2.2) := cellT t18 x445 (by simp only; omega)
      have l478 : w.heap.size < w18.heap.size := by omega
      have x479 : w18.cell? ⟨w.heap.size + 1, 0, none⟩ = some (.string (x1).name) := cellT t18 x447 (by simp only; omega)
      have x480 : w18.cell? ⟨w.heap.size + 1, 1, none⟩ = some (.slice a10 (x1).rings.length c10) := cellT t18 x448 (by simp only; omega)
      have l481 : w.heap.size + 1 < w18.heap.size := by omega
      have x482 : w18.cell? ⟨w.heap.size + 1 + 1, 0, none⟩ = some (.int .i64 (x2).t.a) := cellT t18 x450 (by simp only; omega)
      have x483 : w18.cell? ⟨w.heap.size + 1 + 1, 1, none⟩ = some (.int .i64 (x2).t.b) := cellT t18 x451 (by simp only; omega)
      have x484 : w18.cell? ⟨w.heap.size + 1 + 1, 2, none⟩ = some (.int .i64 (x2).t.c) := cellT t18 x452 (by simp only; omega)
      have x485 : w18.cell? ⟨w.heap.size + 1 + 1, 3, none⟩ = some (.int .i64 (x2).t.d) := cellT t18 x453 (by simp only; omega)
      have x486 : w18.cell? ⟨w.heap.size + 1 + 1, 4, none⟩ = some (.int .i64 (x2).t.e) := cellT t18 x454 (by simp only; omega)
      have x487 : w18.cell? ⟨w.heap.size + 1 + 1, 5, none⟩ = some (.int .i64 (x2).tol) := cellT t18 x455 (by simp only; omega)
      have x488 : w18.cell? ⟨w.heap.size + 1 + 1, 6, none⟩ = some (.int .i64 (x2).most) := cellT t18 x456 (by simp only; omega)
      have l489 : w.heap.size + 1 + 1 < w18.heap.size := by omega
      have x490 : w18.cell? ⟨w7.heap.size, 0, none⟩ = some (.slice a131.1 (x0).zones.length c132.1) := cellT t18 x458 (by simp only; omega)
      have x491 : w18.cell? ⟨w7.heap.size, 1, none⟩ = some (.slice a131.2.1 (x0).weights.length c132.2.1) := cellT t18 x459 (by simp only; omega)
      have x492 : w18.cell? ⟨w7.heap.size, 2, none⟩ = some (.slice a131.2.2 (x0).base.length c132.2.2) := cellT t18 x460 (by simp only; omega)
      have l493 : w7.heap.size < w18.heap.size := by omega
      have x494 : w18.cell? ⟨w8.heap.size, 0, none⟩ = some (.string (x1).name) := cellT t18 x462 (by simp only; omega)
      have x495 : w18.cell? ⟨w8.heap.size, 1, none⟩ = some (.slice a155 (x1).rings.length c156) := cellT t18 x463 (by simp only; omega)
      have l496 : w8.heap.size < w18.heap.size := by omega
      clear f435 f436 f437 f433 f440 f441 f442 x443 x444 x445 l446 x447 x448 l449 x450 x451 x452 x453 x454 x455 x456 l457 x458 x459 x460 l461 x462 x463 l464
      clear f439
      go_wp2_with fail
      refine (eqCutDsK _ _ (spV (x0) (x1) (x2) (n3)) _ (OwnCutDs.rd f472) (OwnCutDs.rd f469)).mono ?_
      rintro e w19 ⟨rfl, h19⟩
      have sz19 : w18.heap.size ≤ w19.heap.size := h19.size
      have bw19 : Below w.heap.size w w19 := bw18.trans (h19.mono bw18.size)
      have f498 := f467.mono h19
      have f499 := f468.mono h19
      have f500 := f469.mono h19
      have f501 := f470.mono h19
      have f502 := f465.mono h19
      have f503 := f472.mono h19
      have f504 := f473.mono h19
      have f505 := f474.mono h19
      have x506 : w19.cell? ⟨w.heap.size, 0, none⟩ = some (.slice a00.1 (x0).zones.length c00.1) := cellB h19 x475
      have x507 : w19.cell? ⟨w.heap.size, 1, none⟩ = some (.slice a00.2.1 (x0).weights.length c00.2.1) := cellB h19 x476
      have x508 : w19.cell? ⟨w.heap.size, 2, none⟩ = some (.slice a00.2.2 (x0).base.length c00.2.2) := cellB h19 x477
      have l509 : w.heap.size < w19.heap.size := by omega
      have x510 : w19.cell? ⟨w.heap.size + 1, 0, none⟩ = some (.string (x1).name) := cellB h19 x479
      have x511 : w19.cell? ⟨w.heap.size + 1, 1, none⟩ = some (.slice a10 (x1).rings.length c10) := cellB h19 x480
      have l512 : w.heap.size + 1 < w19.heap.size := by omega
      have x513 : w19.cell? ⟨w.heap.size + 1 + 1, 0, none⟩ = some (.int .i64 (x2).t.a) := cellB h19 x482
      have x514 : w19.cell? ⟨w.heap.size + 1 + 1, 1, none⟩ = some (.int .i64 (x2).t.b) := cellB h19 x483
      have x515 : w19.cell? ⟨w.heap.size + 1 + 1, 2, none⟩ = some (.int .i64 (x2).t.c) := cellB h19 x484
      have x516 : w19.cell? ⟨w.heap.size + 1 + 1, 3, none⟩ = some (.int .i64 (x2).t.d) := cellB h19 x485
      have x517 : w19.cell? ⟨w.heap.size + 1 + 1, 4, none⟩ = some (.int .i64 (x2).t.e) := cellB h19 x486
      have x518 : w19.cell? ⟨w.heap.size + 1 + 1, 5, none⟩ = some (.int .i64 (x2).tol) := cellB h19 x487
      have x519 : w19.cell? ⟨w.heap.size + 1 + 1, 6, none⟩ = some (.int .i64 (x2).most) := cellB h19 x488
      have l520 : w.heap.size + 1 + 1 < w19.heap.size := by omega
      have x521 : w19.cell? ⟨w7.heap.size, 0, none⟩ = some (.slice a131.1 (x0).zones.length c132.1) := cellB h19 x490
      have x522 : w19.cell? ⟨w7.heap.size, 1, none⟩ = some (.slice a131.2.1 (x0).weights.length c132.2.1) := cellB h19 x491
      have x523 : w19.cell? ⟨w7.heap.size, 2, none⟩ = some (.slice a131.2.2 (x0).base.length c132.2.2) := cellB h19 x492
      have l524 : w7.heap.size < w19.heap.size := by omega
      have x525 : w19.cell? ⟨w8.heap.size, 0, none⟩ = some (.string (x1).name) := cellB h19 x494
      have x526 : w19.cell? ⟨w8.heap.size, 1, none⟩ = some (.slice a155 (x1).rings.length c156) := cellB h19 x495
      have l527 : w8.heap.size < w19.heap.size := by omega
      clear f467 f468 f469 f470 f465 f472 f473 f474 x475 x476 x477 l478 x479 x480 l481 x482 x483 x484 x485 x486 x487 x488 l489 x490 x491 x492 l493 x494 x495 l496
      go_wp2_with fail
      refine (markCutDsK _ _ _ (spV (x0) (x1) (x2) (n3)) (1) _ f503 (by omega) (by have := hbd; omega)).mono ?_
      rintro e w20 ⟨rfl, f528, t20⟩
      have sz20 : w19.heap.size ≤ w20.heap.size := t20.size
      have bw20 : Below w.heap.size w w20 := t20.below bw19 (by omega) (by omega)
      have f530 := f498.touch t20 (by omega)
      have f531 := f499.touch t20 (by omega)
      have f532 := f500.touch t20 (by omega)
      have f533 := f501.touch t20 (by omega)
      have f534 := f502.touch t20 (by omega)
      have f536 := f504.touch t20 (by omega)
      have f537 := f505.touch t20 (by omega)
      have x538 : w20.cell? ⟨w.heap.size, 0, none⟩ = some (.slice a00.1 (x0).zones.length c00.1) := cellT t20 x506 (by simp only; omega)
      have x539 : w20.cell? ⟨w.heap.size, 1, none⟩ = some (.slice a00.2.1 (x0).weights.length c00.2.1) := cellT t20 x507 (by simp only; omega)
      have x540 : w20.cell? ⟨w.heap.size, 2, none⟩ = some (.slice a00.2.2 (x0).base.length c00.2.2) := cellT t20 x508 (by simp only; omega)
      have l541 : w.heap.size < w20.heap.size := by omega
      have x542 : w20.cell? ⟨w.heap.size + 1, 0, none⟩ = some (.string (x1).name) := cellT t20 x510 (by simp only; omega)
      have x543 : w20.cell? ⟨w.heap.size + 1, 1, none⟩ = some (.slice a10 (x1).rings.length c10) := cellT t20 x511 (by simp only; omega)
      have l544 : w.heap.size + 1 < w20.heap.size := by omega
      have x545 : w20.cell? ⟨w.heap.size + 1 + 1, 0, none⟩ = some (.int .i64 (x2).t.a) := cellT t20 x513 (by simp only; omega)
      have x546 : w20.cell? ⟨w.heap.size + 1 + 1, 1, none⟩ = some (.int .i64 (x2).t.b) := cellT t20 x514 (by simp only; omega)
      have x547 : w20.cell? ⟨w.heap.size + 1 + 1, 2, none⟩ = some (.int .i64 (x2).t.c) := cellT t20 x515 (by simp only; omega)
      have x548 : w20.cell? ⟨w.heap.size + 1 + 1, 3, none⟩ = some (.int .i64 (x2).t.d) := cellT t20 x516 (by simp only; omega)
      have x549 : w20.cell? ⟨w.heap.size + 1 + 1, 4, none⟩ = some (.int .i64 (x2).t.e) := cellT t20 x517 (by simp only; omega)
      have x550 : w20.cell? ⟨w.heap.size + 1 + 1, 5, none⟩ = some (.int .i64 (x2).tol) := cellT t20 x518 (by simp only; omega)
      have x551 : w20.cell? ⟨w.heap.size + 1 + 1, 6, none⟩ = some (.int .i64 (x2).most) := cellT t20 x519 (by simp only; omega)
      have l552 : w.heap.size + 1 + 1 < w20.heap.size := by omega
      have x553 : w20.cell? ⟨w7.heap.size, 0, none⟩ = some (.slice a131.1 (x0).zones.length c132.1) := cellT t20 x521 (by simp only; omega)
      have x554 : w20.cell? ⟨w7.heap.size, 1, none⟩ = some (.slice a131.2.1 (x0).weights.length c132.2.1) := cellT t20 x522 (by simp only; omega)
      have x555 : w20.cell? ⟨w7.heap.size, 2, none⟩ = some (.slice a131.2.2 (x0).base.length c132.2.2) := cellT t20 x523 (by simp only; omega)
      have l556 : w7.heap.size < w20.heap.size := by omega
      have x557 : w20.cell? ⟨w8.heap.size, 0, none⟩ = some (.string (x1).name) := cellT t20 x525 (by simp only; omega)
      have x558 : w20.cell? ⟨w8.heap.size, 1, none⟩ = some (.slice a155 (x1).rings.length c156) := cellT t20 x526 (by simp only; omega)
      have l559 : w8.heap.size < w20.heap.size := by omega
      clear f498 f499 f500 f501 f502 f504 f505 x506 x507 x508 l509 x510 x511 l512 x513 x514 x515 x516 x517 x518 x519 l520 x521 x522 x523 l524 x525 x526 l527
      clear f503
      go_wp2_with fail
      refine (heldCutDsK _ _ _ (spV (x0) (x1) (x2) (n3)) (1) _ f528 (by omega) (by have := hbd; omega)).mono ?_
      rintro e w21 ⟨rfl, h21⟩
      have sz21 : w20.heap.size ≤ w21.heap.size := h21.size
      have bw21 : Below w.heap.size w w21 := bw20.trans (h21.mono bw20.size)
      have f561 := f530.mono h21
      have f562 := f531.mono h21
      have f563 := f532.mono h21
      have f564 := f533.mono h21
      have f565 := f534.mono h21
      have f566 := f528.mono h21
      have f567 := f536.mono h21
      have f568 := f537.mono h21
      have x569 : w21.cell? ⟨w.heap.size, 0, none⟩ = some (.slice a00.1 (x0).zones.length c00.1) := cellB h21 x538
      have x570 : w21.cell? ⟨w.heap.size, 1, none⟩ = some (.slice a00.2.1 (x0).weights.length c00.2.1) := cellB h21 x539
      have x571 : w21.cell? ⟨w.heap.size, 2, none⟩ = some (.slice a00.2.2 (x0).base.length c00.2.2) := cellB h21 x540
      have l572 : w.heap.size < w21.heap.size := by omega
      have x573 : w21.cell? ⟨w.heap.size + 1, 0, none⟩ = some (.string (x1).name) := cellB h21 x542
      have x574 : w21.cell? ⟨w.heap.size + 1, 1, none⟩ = some (.slice a10 (x1).rings.length c10) := cellB h21 x543
      have l575 : w.heap.size + 1 < w21.heap.size := by omega
      have x576 : w21.cell? ⟨w.heap.size + 1 + 1, 0, none⟩ = some (.int .i64 (x2).t.a) := cellB h21 x545
      have x577 : w21.cell? ⟨w.heap.size + 1 + 1, 1, none⟩ = some (.int .i64 (x2).t.b) := cellB h21 x546
      have x578 : w21.cell? ⟨w.heap.size + 1 + 1, 2, none⟩ = some (.int .i64 (x2).t.c) := cellB h21 x547
      have x579 : w21.cell? ⟨w.heap.size + 1 + 1, 3, none⟩ = some (.int .i64 (x2).t.d) := cellB h21 x548
      have x580 : w21.cell? ⟨w.heap.size + 1 + 1, 4, none⟩ = some (.int .i64 (x2).t.e) := cellB h21 x549
      have x581 : w21.cell? ⟨w.heap.size + 1 + 1, 5, none⟩ = some (.int .i64 (x2).tol) := cellB h21 x550
      have x582 : w21.cell? ⟨w.heap.size + 1 + 1, 6, none⟩ = some (.int .i64 (x2).most) := cellB h21 x551
      have l583 : w.heap.size + 1 + 1 < w21.heap.size := by omega
      have x584 : w21.cell? ⟨w7.heap.size, 0, none⟩ = some (.slice a131.1 (x0).zones.length c132.1) := cellB h21 x553
      have x585 : w21.cell? ⟨w7.heap.size, 1, none⟩ = some (.slice a131.2.1 (x0).weights.length c132.2.1) := cellB h21 x554
      have x586 : w21.cell? ⟨w7.heap.size, 2, none⟩ = some (.slice a131.2.2 (x0).base.length c132.2.2) := cellB h21 x555
      have l587 : w7.heap.size < w21.heap.size := by omega
      have x588 : w21.cell? ⟨w8.heap.size, 0, none⟩ = some (.string (x1).name) := cellB h21 x557
      have x589 : w21.cell? ⟨w8.heap.size, 1, none⟩ = some (.slice a155 (x1).rings.length c156) := cellB h21 x558
      have l590 : w8.heap.size < w21.heap.size := by omega
      clear f530 f531 f532 f533 f534 f528 f536 f537 x538 x539 x540 l541 x542 x543 l544 x545 x546 x547 x548 x549 x550 x551 l552 x553 x554 x555 l556 x557 x558 l559
      go_wp2_with fail
      refine wp_region_ord [(0, true), (2, true), (4, true), (6, true), (1, false), (3, false), (5, false), (7, false), (8, true), (9, true), (11, true), (10, true), (12, true)] (none) (by kernel_rfl) (by kernel_rfl) ?_
      (repeat (with_reducible refine wpOrd_soft (fun K hK => ?_); simp only [List.getElem?_toArray, List.getElem?_cons_zero, List.getElem?_cons_succ]; first | (go_simp; refine hK _ ?_) | (simp only [undef]; go_simp; refine hK _ ?_); clear hK K))
      (with_reducible refine wpOrd_hard ?_; simp only [List.getElem?_toArray, List.getElem?_cons_zero, List.getElem?_cons_succ])
      go_wp2_with fail
      refine (toModDK _ (x0) _ (r0.mono (by have hbw := bw21; (repeat (first | with_reducible exact Below.refl _ _ | with_reducible exact hbw | (with_reducible refine Below.setCell ?_ ?_ _; rotate_left; · first | exact Nat.le_refl _ | omega | (simp; done) | (simp; omega)) | (with_reducible refine Below.alloc ?_ ?_ _; rotate_left; · first | exact Nat.le_refl _ | omega | (simp; done) | (simp; omega)) | with_reducible refine below_drewN ?_ _ | with_reducible refine Below.drew ?_)))) q0).mono ?_
      rintro e w22 ⟨v591, rfl, ho592, h22⟩
      obtain ⟨a593, c594, rfl⟩ := ho592.form2
      have f595 : OwnModD w21.heap.size w22.heap.size w22 (.agg #[.slice a593.1 (x0).zones.length c594.1, .slice a593.2.1 (x0).weights.length c594.2.1, .slice a593.2.2 (x0).base.length c594.2.2]) (x0) := ho592
      clear ho592
      have st596 : Below w21.heap.size w21 w22 := undrew h22
      have sz22 : w21.heap.size ≤ w22.heap.size := st596.size
      have bw22 : Below w.heap.size w w22 := bw21.trans (st596.mono bw21.size)
      have f597 := f561.mono st596
      have f598 := f562.mono st596
      have f599 := f563.mono st596
      have f600 := f564.mono st596
      have f601 := f565.mono st596
      have f602 := f566.mono st596
      have f603 := f567.mono st596
      have f604 := f568.mono st596
      have x605 : w22.cell? ⟨w.heap.size, 0, none⟩ = some (.slice a00.1 (x0).zones.length c00.1) := cellB st596 x569
      have x606 : w22.cell? ⟨w.heap.size, 1, none⟩ = some (.slice a00.2.1 (x0).weights.length c00.2.1) := cellB st596 x570
      have x607 : w22.cell? ⟨w.heap.size, 2, none⟩ = some (.slice a00.2.2 (x0).base.length c00.2.2) := cellB st596 x571
      have l608 : w.heap.size < w22.heap.size := by omega
      have x609 : w22.cell? ⟨w.heap.size + 1, 0, none⟩ = some (.string (x1).name) := cellB st596 x573
      have x610 : w22.cell? ⟨w.heap.size + 1, 1, none⟩ = some (.slice a10 (x1).rings.length c10) := cellB st596 x574
      have l611 : w.heap.size + 1 < w22.heap.size := by omega
      have x612 : w22.cell? ⟨w.heap.size + 1 + 1, 0, none⟩ = some (.int .i64 (x2).t.a) := cellB st596 x576
      have x613 : w22.cell? ⟨w.heap.size + 1 + 1, 1, none⟩ = some (.int .i64 (x2).t.b) := cellB st596 x577
      have x614 : w22.cell? ⟨w.heap.size + 1 + 1, 2, none⟩ = some (.int .i64 (x2).t.c) := cellB st596 x578
      have x615 : w22.cell? ⟨w.heap.size + 1 + 1, 3, none⟩ = some (.int .i64 (x2).t.d) := cellB st596 x579
      have x616 : w22.cell? ⟨w.heap.size + 1 + 1, 4, none⟩ = some (.int .i64 (x2).t.e) := cellB st596 x580
      have x617 : w22.cell? ⟨w.heap.size + 1 + 1, 5, none⟩ = some (.int .i64 (x2).tol) := cellB st596 x581
      have x618 : w22.cell? ⟨w.heap.size + 1 + 1, 6, none⟩ = some (.int .i64 (x2).most) := cellB st596 x582
      have l619 : w.heap.size + 1 + 1 < w22.heap.size := by omega
      have x620 : w22.cell? ⟨w7.heap.size, 0, none⟩ = some (.slice a131.1 (x0).zones.length c132.1) := cellB st596 x584
      have x621 : w22.cell? ⟨w7.heap.size, 1, none⟩ = some (.slice a131.2.1 (x0).weights.length c132.2.1) := cellB st596 x585
      have x622 : w22.cell? ⟨w7.heap.size, 2, none⟩ = some (.slice a131.2.2 (x0).base.length c132.2.2) := cellB st596 x586
      have l623 : w7.heap.size < w22.heap.size := by omega
      have x624 : w22.cell? ⟨w8.heap.size, 0, none⟩ = some (.string (x1).name) := cellB st596 x588
      have x625 : w22.cell? ⟨w8.heap.size, 1, none⟩ = some (.slice a155 (x1).rings.length c156) := cellB st596 x589
      have l626 : w8.heap.size < w22.heap.size := by omega
      clear f561 f562 f563 f564 f565 f566 f567 f568 x569 x570 x571 l572 x573 x574 l575 x576 x577 x578 x579 x580 x581 x582 l583 x584 x585 x586 l587 x588 x589 l590 h22
      go_wp2_with fail
      refine ⟨grown_of_below st596, ?_⟩
      (repeat (with_reducible refine wpOrd_soft (fun K hK => ?_); simp only [List.getElem?_toArray, List.getElem?_cons_zero, List.getElem?_cons_succ]; first | (go_simp; refine hK _ ?_) | (simp only [undef]; go_simp; refine hK _ ?_); clear hK K))
      (with_reducible refine wpOrd_hard ?_; simp only [List.getElem?_toArray, List.getElem?_cons_zero, List.getElem?_cons_succ])
      go_wp2_with fail
      refine (toPrfZ _ (x1) _ (r1.mono (by have hbw := bw22; (repeat (first | with_reducible exact Below.refl _ _ | with_reducible exact hbw | (with_reducible refine Below.setCell ?_ ?_ _; rotate_left; · first | exact Nat.le_refl _ | omega | (simp; done) | (simp; omega)) | (with_reducible refine Below.alloc ?_ ?_ _; rotate_left; · first | exact Nat.le_refl _ | omega | (simp; done) | (simp; omega)) | with_reducible refine below_drewN ?_ _ | with_reducible refine Below.drew ?_)))) q1).mono ?_
      rintro e w23 ⟨v627, rfl, ho628, h23⟩
      obtain ⟨a629, c630, rfl⟩ := ho628.form
      have f631 : OwnPrf w22.heap.size w23.heap.size w23 (.agg #[.string (x1).name, .slice a629 (x1).rings.length c630]) (x1) := ho628
      clear ho628
      have sz23 : w22.heap.size ≤ w23.heap.size := h23.size
      have bw23 : Below w.heap.size w w23 := bw22.trans (h23.mono bw22.size)
      have f633 := f597.mono h23
      have f634 := f598.mono h23
      have f635 := f599.mono h23
      have f636 := f600.mono h23
      have f637 := f601.mono h23
      have f638 := f602.mono h23
      have f639 := f603.mono h23
      have f640 := f604.mono h23
      have f641 := f595.mono h23
      have x642 : w23.cell? ⟨w.heap.size, 0, none⟩ = some (.slice a00.1 (x0).zones.length c00.1) := cellB h23 x605
      have x643 : w23.cell? ⟨w.heap.size, 1, none⟩ = some (.slice a00.2.1 (x0).weights.length c00.2.1) := cellB h23 x606
      have x644 : w23.cell? ⟨w.heap.size, 2, none⟩ = some (.slice a00.2.2 (x0).base.length c00.2.2) := cellB h23 x607
      have l645 : w.heap.size < w23.heap.size := by omega
      have x646 : w23.cell? ⟨w.heap.size + 1, 0, none⟩ = some (.string (x1).name) := cellB h23 x609
      have x647 : w23.cell? ⟨w.heap.size + 1, 1, none⟩ = some (.slice a10 (x1).rings.length c10) := cellB h23 x610
      have l648 : w.heap.size + 1 < w23.heap.size := by omega
      have x649 : w23.cell? ⟨w.heap.size + 1 + 1, 0, none⟩ = some (.int .i64 (x2).t.a) := cellB h23 x612
      have x650 : w23.cell? ⟨w.heap.size + 1 + 1, 1, none⟩ = some (.int .i64 (x2).t.b) := cellB h23 x613
      have x651 : w23.cell? ⟨w.heap.size + 1 + 1, 2, none⟩ = some (.int .i64 (x2).t.c) := cellB h23 x614
      have x652 : w23.cell? ⟨w.heap.size + 1 + 1, 3, none⟩ = some (.int .i64 (x2).t.d) := cellB h23 x615
      have x653 : w23.cell? ⟨w.heap.size + 1 + 1, 4, none⟩ = some (.int .i64 (x2).t.e) := cellB h23 x616
      have x654 : w23.cell? ⟨w.heap.size + 1 + 1, 5, none⟩ = some (.int .i64 (x2).tol) := cellB h23 x617
      have x655 : w23.cell? ⟨w.heap.size + 1 + 1, 6, none⟩ = some (.int .i64 (x2).most) := cellB h23 x618
      have l656 : w.heap.size + 1 + 1 < w23.heap.size := by omega
      have x657 : w23.cell? ⟨w7.heap.size, 0, none⟩ = some (.slice a131.1 (x0).zones.length c132.1) := cellB h23 x620
      have x658 : w23.cell? ⟨w7.heap.size, 1, none⟩ = some (.slice a131.2.1 (x0).weights.length c132.2.1) := cellB h23 x621
      have x659 : w23.cell? ⟨w7.heap.size, 2, none⟩ = some (.slice a131.2.2 (x0).base.length c132.2.2) := cellB h23 x622
      have l660 : w7.heap.size < w23.heap.size := by omega
      have x661 : w23.cell? ⟨w8.heap.size, 0, none⟩ = some (.string (x1).name) := cellB h23 x624
      have x662 : w23.cell? ⟨w8.heap.size, 1, none⟩ = some (.slice a155 (x1).rings.length c156) := cellB h23 x625
      have l663 : w8.heap.size < w23.heap.size := by omega
      clear f597 f598 f599 f600 f601 f602 f603 f604 f595 x605 x606 x607 l608 x609 x610 l611 x612 x613 x614 x615 x616 x617 x618 l619 x620 x621 x622 l623 x624 x625 l626
      have rg664 : Below w21.heap.size w21 w23 := st596.trans (h23.mono st596.size)
      go_wp2_with fail
      refine ⟨grown_of_below rg664, ?_⟩
      (repeat (with_reducible refine wpOrd_soft (fun K hK => ?_); simp only [List.getElem?_toArray, List.getElem?_cons_zero, List.getElem?_cons_succ]; first | (go_simp; refine hK _ ?_) | (simp only [undef]; go_simp; refine hK _ ?_); clear hK K))
      (with_reducible refine wpOrd_hard ?_; simp only [List.getElem?_toArray, List.getElem?_cons_zero, List.getElem?_cons_succ])
      go_wp2_with fail
      refine (toGoalR _ (x2) _ (rdGoal _ _)).mono ?_
      rintro e w24 ⟨rfl, h24⟩
      have sz24 : w23.heap.size ≤ w24.heap.size := h24.size
      have bw24 : Below w.heap.size w w24 := bw23.trans (h24.mono bw23.size)
      have f666 := f633.mono h24
      have f667 := f634.mono h24
      have f668 := f635.mono h24
      have f669 := f636.mono h24
      have f670 := f637.mono h24
      have f671 := f638.mono h24
      have f672 := f639.mono h24
      have f673 := f640.mono h24
      have f674 := f641.mono h24
      have f675 := f631.mono h24
      have x676 : w24.cell? ⟨w.heap.size, 0, none⟩ = some (.slice a00.1 (x0).zones.length c00.1) := cellB h24 x642
      have x677 : w24.cell? ⟨w.heap.size, 1, none⟩ = some (.slice a00.2.1 (x0).weights.length c00.2.1) := cellB h24 x643
      have x678 : w24.cell? ⟨w.heap.size, 2, none⟩ = some (.slice a00.2.2 (x0).base.length c00.2.2) := cellB h24 x644
      have l679 : w.heap.size < w24.heap.size := by omega
      have x680 : w24.cell? ⟨w.heap.size + 1, 0, none⟩ = some (.string (x1).name) := cellB h24 x646
      have x681 : w24.cell? ⟨w.heap.size + 1, 1, none⟩ = some (.slice a10 (x1).rings.length c10) := cellB h24 x647
      have l682 : w.heap.size + 1 < w24.heap.size := by omega
      have x683 : w24.cell? ⟨w.heap.size + 1 + 1, 0, none⟩ = some (.int .i64 (x2).t.a) := cellB h24 x649
      have x684 : w24.cell? ⟨w.heap.size + 1 + 1, 1, none⟩ = some (.int .i64 (x2).t.b) := cellB h24 x650
      have x685 : w24.cell? ⟨w.heap.size + 1 + 1, 2, none⟩ = some (.int .i64 (x2).t.c) := cellB h24 x651
      have x686 : w24.cell? ⟨w.heap.size + 1 + 1, 3, none⟩ = some (.int .i64 (x2).t.d) := cellB h24 x652
      have x687 : w24.cell? ⟨w.heap.size + 1 + 1, 4, none⟩ = some (.int .i64 (x2).t.e) := cellB h24 x653
      have x688 : w24.cell? ⟨w.heap.size + 1 + 1, 5, none⟩ = some (.int .i64 (x2).tol) := cellB h24 x654
      have x689 : w24.cell? ⟨w.heap.size + 1 + 1, 6, none⟩ = some (.int .i64 (x2).most) := cellB h24 x655
      have l690 : w.heap.size + 1 + 1 < w24.heap.size := by omega
      have x691 : w24.cell? ⟨w7.heap.size, 0, none⟩ = some (.slice a131.1 (x0).zones.length c132.1) := cellB h24 x657
      have x692 : w24.cell? ⟨w7.heap.size, 1, none⟩ = some (.slice a131.2.1 (x0).weights.length c132.2.1) := cellB h24 x658
      have x693 : w24.cell? ⟨w7.heap.size, 2, none⟩ = some (.slice a131.2.2 (x0).base.length c132.2.2) := cellB h24 x659
      have l694 : w7.heap.size < w24.heap.size := by omega
      have x695 : w24.cell? ⟨w8.heap.size, 0, none⟩ = some (.string (x1).name) := cellB h24 x661
      have x696 : w24.cell? ⟨w8.heap.size, 1, none⟩ = some (.slice a155 (x1).rings.length c156) := cellB h24 x662
      have l697 : w8.heap.size < w24.heap.size := by omega
      clear f633 f634 f635 f636 f637 f638 f639 f640 f641 f631 x642 x643 x644 l645 x646 x647 l648 x649 x650 x651 x652 x653 x654 x655 l656 x657 x658 x659 l660 x661 x662 l663
      have rg698 : Below w21.heap.size w21 w24 := rg664.trans (h24.mono rg664.size)
      go_wp2_with fail
      refine ⟨grown_of_below rg698, ?_⟩
      (repeat (with_reducible refine wpOrd_soft (fun K hK => ?_); simp only [List.getElem?_toArray, List.getElem?_cons_zero, List.getElem?_cons_succ]; first | (go_simp; refine hK _ ?_) | (simp only [undef]; go_simp; refine hK _ ?_); clear hK K))
      (with_reducible refine wpOrd_hard ?_; simp only [List.getElem?_toArray, List.getElem?_cons_zero, List.getElem?_cons_succ])
      go_wp2_with fail
      refine (implShortestPlan_any _ (x0) _ (x1) _ (x2) (n3) _ (OwnModD.rd f674) o0 q0 (OwnPrf.rd f675) o1 q1 (rdGoal _ _) o2 q2 o3).mono ?_
      rintro e w25 ⟨v699, rfl, ho700, h25⟩
      obtain ⟨a701, c702, rfl⟩ := ho700.form
      have f703 : OwnCutDs w24.heap.size w25.heap.size w25 (.slice a701 (spV (x0) (x1) (x2) (n3)).length c702) (spV (x0) (x1) (x2) (n3)) := ho700
      clear ho700
      have sz25 : w24.heap.size ≤ w25.heap.size := h25.size
      have bw25 : Below w.heap.size w w25 := bw24.trans (h25.mono bw24.size)
      have f705 := f666.mono h25
      have f706 := f667.mono h25
      have f707 := f668.mono h25
      have f708 := f669.mono h25
      have f709 := f670.mono h25
      have f710 := f671.mono h25
      have f711 := f672.mono h25
      have f712 := f673.mono h25
      have f713 := f674.mono h25
      have f714 := f675.mono h25
      have x715 : w25.cell? ⟨w.heap.size, 0, none⟩ = some (.slice a00.1 (x0).zones.length c00.1) := cellB h25 x676
      have x716 : w25.cell? ⟨w.heap.size, 1, none⟩ = some (.slice a00.2.1 (x0).weights.length c00.2.1) := cellB h25 x677
      have x717 : w25.cell? ⟨w.heap.size, 2, none⟩ = some (.slice a00.2.2 (x0).base.length c00.2.2) := cellB h25 x678
      have l718 : w.heap.size < w25.heap.size := by omega
      have x719 : w25.cell? ⟨w.heap.size + 1, 0, none⟩ = some (.string (x1).name) := cellB h25 x680
      have x720 : w25.cell? ⟨w.heap.size + 1, 1, none⟩ = some (.slice a10 (x1).rings.length c10) := cellB h25 x681
      have l721 : w.heap.size + 1 < w25.heap.size := by omega
      have x722 : w25.cell? ⟨w.heap.size + 1 + 1, 0, none⟩ = some (.int .i64 (x2).t.a) := cellB h25 x683
      have x723 : w25.cell? ⟨w.heap.size + 1 + 1, 1, none⟩ = some (.int .i64 (x2).t.b) := cellB h25 x684
      have x724 : w25.cell? ⟨w.heap.size + 1 + 1, 2, none⟩ = some (.int .i64 (x2).t.c) := cellB h25 x685
      have x725 : w25.cell? ⟨w.heap.size + 1 + 1, 3, none⟩ = some (.int .i64 (x2).t.d) := cellB h25 x686
      have x726 : w25.cell? ⟨w.heap.size + 1 + 1, 4, none⟩ = some (.int .i64 (x2).t.e) := cellB h25 x687
      have x727 : w25.cell? ⟨w.heap.size + 1 + 1, 5, none⟩ = some (.int .i64 (x2).tol) := cellB h25 x688
      have x728 : w25.cell? ⟨w.heap.size + 1 + 1, 6, none⟩ = some (.int .i64 (x2).most) := cellB h25 x689
      have l729 : w.heap.size + 1 + 1 < w25.heap.size := by omega
      have x730 : w25.cell? ⟨w7.heap.size, 0, none⟩ = some (.slice a131.1 (x0).zones.length c132.1) := cellB h25 x691
      have x731 : w25.cell? ⟨w7.heap.size, 1, none⟩ = some (.slice a131.2.1 (x0).weights.length c132.2.1) := cellB h25 x692
      have x732 : w25.cell? ⟨w7.heap.size, 2, none⟩ = some (.slice a131.2.2 (x0).base.length c132.2.2) := cellB h25 x693
      have l733 : w7.heap.size < w25.heap.size := by omega
      have x734 : w25.cell? ⟨w8.heap.size, 0, none⟩ = some (.string (x1).name) := cellB h25 x695
      have x735 : w25.cell? ⟨w8.heap.size, 1, none⟩ = some (.slice a155 (x1).rings.length c156) := cellB h25 x696
      have l736 : w8.heap.size < w25.heap.size := by omega
      clear f666 f667 f668 f669 f670 f671 f672 f673 f674 f675 x676 x677 x678 l679 x680 x681 l682 x683 x684 x685 x686 x687 x688 x689 l690 x691 x692 x693 l694 x695 x696 l697
      have rg737 : Below w21.heap.size w21 w25 := rg698.trans (h25.mono rg698.size)
      go_wp2_with fail
      refine ⟨grown_of_below rg737, ?_⟩
      (repeat (with_reducible refine wpOrd_soft (fun K hK => ?_); simp only [List.getElem?_toArray, List.getElem?_cons_zero, List.getElem?_cons_succ]; first | (go_simp; refine hK _ ?_) | (simp only [undef]; go_simp; refine hK _ ?_); clear hK K))
      (with_reducible refine wpOrd_nil ?_); refine NoPanic.normal ?_
      go_wp2_with fail
      refine (eqCutDsK _ _ (spV (x0) (x1) (x2) (n3)) _ (OwnCutDs.rd f703) (OwnCutDs.rd f707)).mono ?_
      rintro e w26 ⟨rfl, h26⟩
      have sz26 : w25.heap.size ≤ w26.heap.size := h26.size
      have bw26 : Below w.heap.size w w26 := bw25.trans (h26.mono bw25.size)
      have f739 := f705.mono h26
      have f740 := f706.mono h26
      have f741 := f707.mono h26
      have f742 := f708.mono h26
      have f743 := f709.mono h26
      have f744 := f710.mono h26
      have f745 := f711.mono h26
      have f746 := f712.mono h26
      have f747 := f713.mono h26
      have f748 := f714.mono h26
      have f749 := f703.mono h26
      have x750 : w26.cell? ⟨w.heap.size, 0, none⟩ = some (.slice a00.1 (x0).zones.length c00.1) := cellB h26 x715
      have x751 : w26.cell? ⟨w.heap.size, 1, none⟩ = some (.slice a00.2.1 (x0).weights.length c00.2.1) := cellB h26 x716
      have x752 : w26.cell? ⟨w.heap.size, 2, none⟩ = some (.slice a00.2.2 (x0).base.length c00.2.2) := cellB h26 x717
      have l753 : w.heap.size < w26.heap.size := by omega
      have x754 : w26.cell? ⟨w.heap.size + 1, 0, none⟩ = some (.string (x1).name) := cellB h26 x719
      have x755 : w26.cell? ⟨w.heap.size + 1, 1, none⟩ = some (.slice a10 (x1).rings.length c10) := cellB h26 x720
      have l756 : w.heap.size + 1 < w26.heap.size := by omega
      have x757 : w26.cell? ⟨w.heap.size + 1 + 1, 0, none⟩ = some (.int .i64 (x2).t.a) := cellB h26 x722
      have x758 : w26.cell? ⟨w.heap.size + 1 + 1, 1, none⟩ = some (.int .i64 (x2).t.b) := cellB h26 x723
      have x759 : w26.cell? ⟨w.heap.size + 1 + 1, 2, none⟩ = some (.int .i64 (x2).t.c) := cellB h26 x724
      have x760 : w26.cell? ⟨w.heap.size + 1 + 1, 3, none⟩ = some (.int .i64 (x2).t.d) := cellB h26 x725
      have x761 : w26.cell? ⟨w.heap.size + 1 + 1, 4, none⟩ = some (.int .i64 (x2).t.e) := cellB h26 x726
      have x762 : w26.cell? ⟨w.heap.size + 1 + 1, 5, none⟩ = some (.int .i64 (x2).tol) := cellB h26 x727
      have x763 : w26.cell? ⟨w.heap.size + 1 + 1, 6, none⟩ = some (.int .i64 (x2).most) := cellB h26 x728
      have l764 : w.heap.size + 1 + 1 < w26.heap.size := by omega
      have x765 : w26.cell? ⟨w7.heap.size, 0, none⟩ = some (.slice a131.1 (x0).zones.length c132.1) := cellB h26 x730
      have x766 : w26.cell? ⟨w7.heap.size, 1, none⟩ = some (.slice a131.2.1 (x0).weights.length c132.2.1) := cellB h26 x731
      have x767 : w26.cell? ⟨w7.heap.size, 2, none⟩ = some (.slice a131.2.2 (x0).base.length c132.2.2) := cellB h26 x732
      have l768 : w7.heap.size < w26.heap.size := by omega
      have x769 : w26.cell? ⟨w8.heap.size, 0, none⟩ = some (.string (x1).name) := cellB h26 x734
      have x770 : w26.cell? ⟨w8.heap.size, 1, none⟩ = some (.slice a155 (x1).rings.length c156) := cellB h26 x735
      have l771 : w8.heap.size < w26.heap.size := by omega
      clear f705 f706 f707 f708 f709 f710 f711 f712 f713 f714 f703 x715 x716 x717 l718 x719 x720 l721 x722 x723 x724 x725 x726 x727 x728 l729 x730 x731 x732 l733 x734 x735 l736
      go_wp2_with fail
      refine (heldCutDsK _ _ _ (spV (x0) (x1) (x2) (n3)) (1) _ f744 (by omega) (by have := hbd; omega)).mono ?_
      rintro e w27 ⟨rfl, h27⟩
      have sz27 : w26.heap.size ≤ w27.heap.size := h27.size
      have bw27 : Below w.heap.size w w27 := bw26.trans (h27.mono bw26.size)
      have f773 := f739.mono h27
      have f774 := f740.mono h27
      have f775 := f741.mono h27
      have f776 := f742.mono h27
      have f777 := f743.mono h27
      have f778 := f744.mono h27
      have f779 := f745.mono h27
      have f780 := f746.mono h27
      have f781 := f747.mono h27
      have f782 := f748.mono h27
      have f783 := f749.mono h27
      have x784 : w27.cell? ⟨w.heap.size, 0, none⟩ = some (.slice a00.1 (x0).zones.length c00.1) := cellB h27 x750
      have x785 : w27.cell? ⟨w.heap.size, 1, none⟩ = some (.slice a00.2.1 (x0).weights.length c00.2.1) := cellB h27 x751
      have x786 : w27.cell? ⟨w.heap.size, 2, none⟩ = some (.slice a00.2.2 (x0).base.length c00.2.2) := cellB h27 x752
      have l787 : w.heap.size < w27.heap.size := by omega
      have x788 : w27.cell? ⟨w.heap.size + 1, 0, none⟩ = some (.string (x1).name) := cellB h27 x754
      have x789 : w27.cell? ⟨w.heap.size + 1, 1, none⟩ = some (.slice a10 (x1).rings.length c10) := cellB h27 x755
      have l790 : w.heap.size + 1 < w27.heap.size := by omega
      have x791 : w27.cell? ⟨w.heap.size + 1 + 1, 0, none⟩ = some (.int .i64 (x2).t.a) := cellB h27 x757
      have x792 : w27.cell? ⟨w.heap.size + 1 + 1, 1, none⟩ = some (.int .i64 (x2).t.b) := cellB h27 x758
      have x793 : w27.cell? ⟨w.heap.size + 1 + 1, 2, none⟩ = some (.int .i64 (x2).t.c) := cellB h27 x759
      have x794 : w27.cell? ⟨w.heap.size + 1 + 1, 3, none⟩ = some (.int .i64 (x2).t.d) := cellB h27 x760
      have x795 : w27.cell? ⟨w.heap.size + 1 + 1, 4, none⟩ = some (.int .i64 (x2).t.e) := cellB h27 x761
      have x796 : w27.cell? ⟨w.heap.size + 1 + 1, 5, none⟩ = some (.int .i64 (x2).tol) := cellB h27 x762
      have x797 : w27.cell? ⟨w.heap.size + 1 + 1, 6, none⟩ = some (.int .i64 (x2).most) := cellB h27 x763
      have l798 : w.heap.size + 1 + 1 < w27.heap.size := by omega
      have x799 : w27.cell? ⟨w7.heap.size, 0, none⟩ = some (.slice a131.1 (x0).zones.length c132.1) := cellB h27 x765
      have x800 : w27.cell? ⟨w7.heap.size, 1, none⟩ = some (.slice a131.2.1 (x0).weights.length c132.2.1) := cellB h27 x766
      have x801 : w27.cell? ⟨w7.heap.size, 2, none⟩ = some (.slice a131.2.2 (x0).base.length c132.2.2) := cellB h27 x767
      have l802 : w7.heap.size < w27.heap.size := by omega
      have x803 : w27.cell? ⟨w8.heap.size, 0, none⟩ = some (.string (x1).name) := cellB h27 x769
      have x804 : w27.cell? ⟨w8.heap.size, 1, none⟩ = some (.slice a155 (x1).rings.length c156) := cellB h27 x770
      have l805 : w8.heap.size < w27.heap.size := by omega
      clear f739 f740 f741 f742 f743 f744 f745 f746 f747 f748 f749 x750 x751 x752 l753 x754 x755 l756 x757 x758 x759 x760 x761 x762 x763 l764 x765 x766 x767 l768 x769 x770 l771
      go_wp2
      go_ret
      exact ⟨rfl, bw27⟩
    · skip
      go_enter Tryz.func3, Tryz.ntmps3
      go_wp2_with fail
      refine (szModDY _ (x0) (1048576) _ (r0.mono (by (repeat (first | with_reducible exact Below.refl _ _ | with_reducible exact hbw | (with_reducible refine Below.setCell ?_ ?_ _; rotate_left; · first | exact Nat.le_refl _ | omega | (simp; done) | (simp; omega)) | (with_reducible refine Below.alloc ?_ ?_ _; rotate_left; · first | exact Nat.le_refl _ | omega | (simp; done) | (simp; omega)) | with_reducible refine below_drewN ?_ _ | with_reducible refine Below.drew ?_)))) o0 (by omega) (by omega) (by omega)).mono ?_
      rintro e w1 ⟨rfl, h1⟩
      have bw1 : Below w.heap.size w w1 := Below.trans (by (repeat (first | with_reducible exact Below.refl _ _ | with_reducible exact hbw | (with_reducible refine Below.setCell ?_ ?_ _; rotate_left; · first | exact Nat.le_refl _ | omega | (simp; done) | (simp; omega)) | (with_reducible refine Below.alloc ?_ ?_ _; rotate_left; · first | exact Nat.le_refl _ | omega | (simp; done) | (simp; omega)) | with_reducible refine below_drewN ?_ _ | with_reducible refine Below.drew ?_))) (h1.mono (by simp <;> omega))
      obtain ⟨hc1, hf1⟩ := bcell h1
      have z1 := h1.size
      simp only [World.size_alloc] at z1
      have z1_0 : w.heap.size < w1.heap.size := by omega
      have z1_1 : w.heap.size + 1 < w1.heap.size := by omega
      have z1_2 : w.heap.size + 1 + 1 < w1.heap.size := by omega
      go_wp2_with fail
      refine (szPrfN _ (x1) (1048576 - (szModD x0 : Int)) _ (r1.mono (by have hbw := bw1; (repeat (first | with_reducible exact Below.refl _ _ | with_reducible exact hbw | (with_reducible refine Below.setCell ?_ ?_ _; rotate_left; · first | exact Nat.le_refl _ | omega | (simp; done) | (simp; omega)) | (with_reducible refine Below.alloc ?_ ?_ _; rotate_left; · first | exact Nat.le_refl _ | omega | (simp; done) | (simp; omega)) | with_reducible refine below_drewN ?_ _ | with_reducible refine Below.drew ?_)))) o1 (by omega) (by omega) (by omega)).mono ?_
      rintro e w2 ⟨rfl, h2⟩
      have bw2 : Below w.heap.size w w2 := Below.trans (by have hbw := bw1; (repeat (first | with_reducible exact Below.refl _ _ | with_reducible exact hbw | (with_reducible refine Below.setCell ?_ ?_ _; rotate_left; · first | exact Nat.le_refl _ | omega | (simp; done) | (simp; omega)) | (with_reducible refine Below.alloc ?_ ?_ _; rotate_left; · first | exact Nat.le_refl _ | omega | (simp; done) | (simp; omega)) | with_reducible refine below_drewN ?_ _ | with_reducible refine Below.drew ?_))) (h2.mono (by have := bw1.size; simp; omega))
      go_wp2
      go_ret
      exact ⟨rfl, bw2⟩
  · skip
    go_enter Tryz.func3, Tryz.ntmps3
    go_wp2_with fail
    refine (szModDN _ (x0) (1048576) _ (r0.mono (by (repeat (first | with_reducible exact Below.refl _ _ | with_reducible exact hbw | (with_reducible refine Below.setCell ?_ ?_ _; rotate_left; · first | exact Nat.le_refl _ | omega | (simp; done) | (simp; omega)) | (with_reducible refine Below.alloc ?_ ?_ _; rotate_left; · first | exact Nat.le_refl _ | omega | (simp; done) | (simp; omega)) | with_reducible refine below_drewN ?_ _ | with_reducible refine Below.drew ?_)))) o0 (by omega) (by omega) (by omega)).mono ?_
    rintro e w1 ⟨rfl, h1⟩
    have bw1 : Below w.heap.size w w1 := Below.trans (by (repeat (first | with_reducible exact Below.refl _ _ | with_reducible exact hbw | (with_reducible refine Below.setCell ?_ ?_ _; rotate_left; · first | exact Nat.le_refl _ | omega | (simp; done) | (simp; omega)) | (with_reducible refine Below.alloc ?_ ?_ _; rotate_left; · first | exact Nat.le_refl _ | omega | (simp; done) | (simp; omega)) | with_reducible refine below_drewN ?_ _ | with_reducible refine Below.drew ?_))) (h1.mono (by simp <;> omega))
    go_wp2
    go_ret
    exact ⟨rfl, bw1⟩

end Go.Proofs.YtenedpboehkmjaaGreat
