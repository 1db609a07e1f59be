/- Contract of spec.MergeTunes. -/
import Derived.Test.YtfnbjegbaobpnaaMerI
import Derived.Test.YtfnbjegbaobpnaaRevS
set_option linter.unusedSimpArgs false
set_option linter.unnecessarySimpa false
set_option linter.unusedVariables false
set_option maxRecDepth 100000
namespace Go.Proofs.Ytfnbjegbaobpnaa
open Go.RowKit

theorem jo_len (x y : TunD) (b : Int) : (joV x y b).tones.length ≤ 1048576 := by
  unfold joV; split
  · exact to_len _ _
  · simp
theorem me_len (x y : TunD) : (meV x y).tones.length ≤ 1048576 := by
  unfold meV; split
  · split
    · exact jo_len _ _ _
    · simp
  · simp

set_option maxHeartbeats 2000000 in
theorem specMergeTunes_any (v : Value) (x : TunD) (v2 : Value) (y : TunD) (w : World) (h : RdTun w v x) (ok : x.ok) (hs : x.tones.length ≤ 1048576) (h2 : RdTun w v2 y) (ok2 : y.ok) (hs2 : y.tones.length ≤ 1048576) :
    Calls Try.prog 41 #[v, v2] w fun e w' => ∃ v', e = .returned (.tuple #[v', .int .i64 (meC x y)]) ∧ OwnTun w.heap.size w'.heap.size w' v' (meV x y) ∧ Below w.heap.size w w' := by
  obtain ⟨lv, rfl, hlv⟩ := h
  obtain ⟨lw, rfl, hlw⟩ := h2
  obtain ⟨a, ca, rfl, hca, hcm, _⟩ := id hlv
  obtain ⟨c, cc, rfl, hcc, hcm2, _⟩ := id hlw
  have hn := ok.1
  have hn2 := ok2.1
  by_cases gx : validTunB x = true
  rotate_left
  · obtain ⟨e1, e2⟩ := me_x (y := y) gx
    have E1 := Lib.hid e1; have E2 := Lib.hid e2; have G := Lib.hid (show validTunB x = false by simpa using gx); clear e1 e2 gx
    go_enter Try.func41, Try.ntmps41
    go_wp2_with fail
    refine (l25Ok_any _ (.slice a x.tones.length ca) x _ ⟨by simp [go_sem], by simp [go_sem], hlv.mono (by (repeat (first | with_reducible exact Below.refl _ _ | with_reducible exact hbw | (with_reducible refine Below.setCell ?_ ?_ _; rotate_left; · first | exact Nat.le_refl _ | omega | (simp; done) | (simp; omega)) | (with_reducible refine Below.alloc ?_ ?_ _; rotate_left; · first | exact Nat.le_refl _ | omega | (simp; done) | (simp; omega)) | with_reducible refine below_drewN ?_ _ | with_reducible refine Below.drew ?_))), hn⟩).mono ?_
    rintro e w1 ⟨rfl, hb⟩
    have HB := Lib.hid (show Below w.heap.size w w1 from Below.trans (by (repeat (first | with_reducible exact Below.refl _ _ | with_reducible exact hbw | (with_reducible refine Below.setCell ?_ ?_ _; rotate_left; · first | exact Nat.le_refl _ | omega | (simp; done) | (simp; omega)) | (with_reducible refine Below.alloc ?_ ?_ _; rotate_left; · first | exact Nat.le_refl _ | omega | (simp; done) | (simp; omega)) | with_reducible refine below_drewN ?_ _ | with_reducible refine Below.drew ?_))) (hb.mono (by simp <;> omega)))
    have hz : w.heap.size + 3 ≤ w1.heap.size := by have := hb.size; simp at this; omega
    have z0 : w1.cell? ⟨w.heap.size, 0, none⟩ = some (.string x.name) := cellB hb (by simp [go_sem])
    have z1 : w1.cell? ⟨w.heap.size, 1, none⟩ = some (.slice a x.tones.length ca) := cellB hb (by simp [go_sem])
    have u0 : w1.cell? ⟨w.heap.size + 1, 0, none⟩ = some (.string y.name) := cellB hb (by simp [go_sem])
    have u1 : w1.cell? ⟨w.heap.size + 1, 1, none⟩ = some (.slice c y.tones.length cc) := cellB hb (by simp [go_sem])
    have r0 : w1.cell? ⟨w.heap.size + 2, 0, none⟩ = some (.string ⟨#[]⟩) := cellB hb (by simp [go_sem])
    have r1 : w1.cell? ⟨w.heap.size + 2, 1, none⟩ = some (.slice none 0 0) := cellB hb (by simp [go_sem])
    have f0 : w1.frozen? ⟨w.heap.size + 2, 0, none⟩ = false := frozenL hb (by simp) (by simp [go_sem])
    have f1 : w1.frozen? ⟨w.heap.size + 2, 1, none⟩ = false := frozenL hb (by simp) (by simp [go_sem])
    have hz0 : w.heap.size < w1.heap.size := by omega
    have hz1 : w.heap.size + 1 < w1.heap.size := by omega
    have hz2 : w.heap.size + 2 < w1.heap.size := by omega
    clear hb
    rw [G.out]
    go_wp2
    refine bodyPost_ret (v := .tuple #[.agg #[.string ⟨#[]⟩, .slice none 0 0], .int .i64 1]) (by simp [results, Try.results41, go_sem, hz2, r0, r1]) rfl ⟨_, by rw [E2.out], by rw [E1.out]; exact ownT_zero _ _ _, ?_⟩
    have hbw := HB.out
    (repeat (first | with_reducible exact Below.refl _ _ | with_reducible exact hbw | (with_reducible refine Below.setCell ?_ ?_ _; rotate_left; · first | exact Nat.le_refl _ | omega | (simp; done) | (simp; omega)) | (with_reducible refine Below.alloc ?_ ?_ _; rotate_left; · first | exact Nat.le_refl _ | omega | (simp; done) | (simp; omega)) | with_reducible refine below_drewN ?_ _ | with_reducible refine Below.drew ?_))
  by_cases gy : validTunB y = true
  rotate_left
  · obtain ⟨e1, e2⟩ := me_y gx gy
    have E1 := Lib.hid e1; have E2 := Lib.hid e2; have GX := Lib.hid gx; have GY := Lib.hid (show validTunB y = false by simpa using gy); clear e1 e2 gx gy
    go_enter Try.func41, Try.ntmps41
    go_wp2_with fail
    refine (l25Ok_any _ (.slice a x.tones.length ca) x _ ⟨by simp [go_sem], by simp [go_sem], hlv.mono (by (repeat (first | with_reducible exact Below.refl _ _ | with_reducible exact hbw | (with_reducible refine Below.setCell ?_ ?_ _; rotate_left; · first | exact Nat.le_refl _ | omega | (simp; done) | (simp; omega)) | (with_reducible refine Below.alloc ?_ ?_ _; rotate_left; · first | exact Nat.le_refl _ | omega | (simp; done) | (simp; omega)) | with_reducible refine below_drewN ?_ _ | with_reducible refine Below.drew ?_))), hn⟩).mono ?_
    rintro e w1 ⟨rfl, hb⟩
    have HB := Lib.hid (show Below w.heap.size w w1 from Below.trans (by (repeat (first | with_reducible exact Below.refl _ _ | with_reducible exact hbw | (with_reducible refine Below.setCell ?_ ?_ _; rotate_left; · first | exact Nat.le_refl _ | omega | (simp; done) | (simp; omega)) | (with_reducible refine Below.alloc ?_ ?_ _; rotate_left; · first | exact Nat.le_refl _ | omega | (simp; done) | (simp; omega)) | with_reducible refine below_drewN ?_ _ | with_reducible refine Below.drew ?_))) (hb.mono (by simp <;> omega)))
    have hz : w.heap.size + 3 ≤ w1.heap.size := by have := hb.size; simp at this; omega
    have z0 : w1.cell? ⟨w.heap.size, 0, none⟩ = some (.string x.name) := cellB hb (by simp [go_sem])
    have z1 : w1.cell? ⟨w.heap.size, 1, none⟩ = some (.slice a x.tones.length ca) := cellB hb (by simp [go_sem])
    have u0 : w1.cell? ⟨w.heap.size + 1, 0, none⟩ = some (.string y.name) := cellB hb (by simp [go_sem])
    have u1 : w1.cell? ⟨w.heap.size + 1, 1, none⟩ = some (.slice c y.tones.length cc) := cellB hb (by simp [go_sem])
    have r0 : w1.cell? ⟨w.heap.size + 2, 0, none⟩ = some (.string ⟨#[]⟩) := cellB hb (by simp [go_sem])
    have r1 : w1.cell? ⟨w.heap.size + 2, 1, none⟩ = some (.slice none 0 0) := cellB hb (by simp [go_sem])
    have f0 : w1.frozen? ⟨w.heap.size + 2, 0, none⟩ = false := frozenL hb (by simp) (by simp [go_sem])
    have f1 : w1.frozen? ⟨w.heap.size + 2, 1, none⟩ = false := frozenL hb (by simp) (by simp [go_sem])
    have hz0 : w.heap.size < w1.heap.size := by omega
    have hz1 : w.heap.size + 1 < w1.heap.size := by omega
    have hz2 : w.heap.size + 2 < w1.heap.size := by omega
    clear hb
    rw [GX.out]
    go_wp2_with fail
    refine (l25Ok_any _ (.slice c y.tones.length cc) y _ ⟨u0, u1, hlw.mono (HB.out), hn2⟩).mono ?_
    rintro e w2 ⟨rfl, hb⟩
    have hzb := hb.size
    have z0 := cellB hb z0
    have z1 := cellB hb z1
    have u0 := cellB hb u0
    have u1 := cellB hb u1
    have r0 := cellB hb r0
    have r1 := cellB hb r1
    have f0 := frozenL hb (by simp; omega) f0
    have f1 := frozenL hb (by simp; omega) f1
    have HB := Lib.hid (HB.out.trans (hb.mono HB.out.size))
    have hz : w.heap.size + 3 ≤ w2.heap.size := by omega
    have hz0 : w.heap.size < w2.heap.size := by omega
    have hz1 : w.heap.size + 1 < w2.heap.size := by omega
    have hz2 : w.heap.size + 2 < w2.heap.size := by omega
    clear hb hzb
    rw [GY.out]
    go_wp2
    refine bodyPost_ret (v := .tuple #[.agg #[.string ⟨#[]⟩, .slice none 0 0], .int .i64 1]) (by simp [results, Try.results41, go_sem, hz2, r0, r1]) rfl ⟨_, by rw [E2.out], by rw [E1.out]; exact ownT_zero _ _ _, ?_⟩
    have hbw := HB.out
    (repeat (first | with_reducible exact Below.refl _ _ | with_reducible exact hbw | (with_reducible refine Below.setCell ?_ ?_ _; rotate_left; · first | exact Nat.le_refl _ | omega | (simp; done) | (simp; omega)) | (with_reducible refine Below.alloc ?_ ?_ _; rotate_left; · first | exact Nat.le_refl _ | omega | (simp; done) | (simp; omega)) | with_reducible refine below_drewN ?_ _ | with_reducible refine Below.drew ?_))
  obtain ⟨e1, e2⟩ := me_yes gx gy
  have E1 := Lib.hid e1; have E2 := Lib.hid e2; have GX := Lib.hid gx; have GY := Lib.hid gy; clear e1 e2 gx gy
  have lx := tun_len GX.out
  have ly := tun_len GY.out
  have s1 : IntKind.i64.wrap ((x.tones.length : Int) + y.tones.length) = (x.tones.length : Int) + y.tones.length := IntWalk.i64_in _ (by omega)
  by_cases gf : joFits x y
  rotate_left
  · obtain ⟨e1, e2⟩ := jo_no (b := 0) gf
    have d0 : decide (128 < (x.tones.length : Int) + y.tones.length) = true := by unfold joFits at gf; simp; omega
    have E1 := Lib.hid (E1.out.trans e1); have E2 := Lib.hid (E2.out.trans e2); clear e1 e2 gf
    go_enter Try.func41, Try.ntmps41
    go_wp2_with fail
    refine (l25Ok_any _ (.slice a x.tones.length ca) x _ ⟨by simp [go_sem], by simp [go_sem], hlv.mono (by (repeat (first | with_reducible exact Below.refl _ _ | with_reducible exact hbw | (with_reducible refine Below.setCell ?_ ?_ _; rotate_left; · first | exact Nat.le_refl _ | omega | (simp; done) | (simp; omega)) | (with_reducible refine Below.alloc ?_ ?_ _; rotate_left; · first | exact Nat.le_refl _ | omega | (simp; done) | (simp; omega)) | with_reducible refine below_drewN ?_ _ | with_reducible refine Below.drew ?_))), hn⟩).mono ?_
    rintro e w1 ⟨rfl, hb⟩
    have HB := Lib.hid (show Below w.heap.size w w1 from Below.trans (by (repeat (first | with_reducible exact Below.refl _ _ | with_reducible exact hbw | (with_reducible refine Below.setCell ?_ ?_ _; rotate_left; · first | exact Nat.le_refl _ | omega | (simp; done) | (simp; omega)) | (with_reducible refine Below.alloc ?_ ?_ _; rotate_left; · first | exact Nat.le_refl _ | omega | (simp; done) | (simp; omega)) | with_reducible refine below_drewN ?_ _ | with_reducible refine Below.drew ?_))) (hb.mono (by simp <;> omega)))
    have hz : w.heap.size + 3 ≤ w1.heap.size := by have := hb.size; simp at this; omega
    have z0 : w1.cell? ⟨w.heap.size, 0, none⟩ = some (.string x.name) := cellB hb (by simp [go_sem])
    have z1 : w1.cell? ⟨w.heap.size, 1, none⟩ = some (.slice a x.tones.length ca) := cellB hb (by simp [go_sem])
    have u0 : w1.cell? ⟨w.heap.size + 1, 0, none⟩ = some (.string y.name) := cellB hb (by simp [go_sem])
    have u1 : w1.cell? ⟨w.heap.size + 1, 1, none⟩ = some (.slice c y.tones.length cc) := cellB hb (by simp [go_sem])
    have r0 : w1.cell? ⟨w.heap.size + 2, 0, none⟩ = some (.string ⟨#[]⟩) := cellB hb (by simp [go_sem])
    have r1 : w1.cell? ⟨w.heap.size + 2, 1, none⟩ = some (.slice none 0 0) := cellB hb (by simp [go_sem])
    have f0 : w1.frozen? ⟨w.heap.size + 2, 0, none⟩ = false := frozenL hb (by simp) (by simp [go_sem])
    have f1 : w1.frozen? ⟨w.heap.size + 2, 1, none⟩ = false := frozenL hb (by simp) (by simp [go_sem])
    have hz0 : w.heap.size < w1.heap.size := by omega
    have hz1 : w.heap.size + 1 < w1.heap.size := by omega
    have hz2 : w.heap.size + 2 < w1.heap.size := by omega
    clear hb
    rw [GX.out]
    go_wp2_with fail
    refine (l25Ok_any _ (.slice c y.tones.length cc) y _ ⟨u0, u1, hlw.mono (HB.out), hn2⟩).mono ?_
    rintro e w2 ⟨rfl, hb⟩
    have hzb := hb.size
    have z0 := cellB hb z0
    have z1 := cellB hb z1
    have u0 := cellB hb u0
    have u1 := cellB hb u1
    have r0 := cellB hb r0
    have r1 := cellB hb r1
    have f0 := frozenL hb (by simp; omega) f0
    have f1 := frozenL hb (by simp; omega) f1
    have HB := Lib.hid (HB.out.trans (hb.mono HB.out.size))
    have hz : w.heap.size + 3 ≤ w2.heap.size := by omega
    have hz0 : w.heap.size < w2.heap.size := by omega
    have hz1 : w.heap.size + 1 < w2.heap.size := by omega
    have hz2 : w.heap.size + 2 < w2.heap.size := by omega
    clear hb hzb
    rw [GY.out]
    go_wp2
    refine bodyPost_ret (v := .tuple #[.agg #[.string ⟨#[]⟩, .slice none 0 0], .int .i64 5]) (by simp [results, Try.results41, go_sem, hz2, r0, r1]) rfl ⟨_, by rw [E2.out], by rw [E1.out]; exact ownT_zero _ _ _, ?_⟩
    have hbw := HB.out
    (repeat (first | with_reducible exact Below.refl _ _ | with_reducible exact hbw | (with_reducible refine Below.setCell ?_ ?_ _; rotate_left; · first | exact Nat.le_refl _ | omega | (simp; done) | (simp; omega)) | (with_reducible refine Below.alloc ?_ ?_ _; rotate_left; · first | exact Nat.le_refl _ | omega | (simp; done) | (simp; omega)) | with_reducible refine below_drewN ?_ _ | with_reducible refine Below.drew ?_))
  obtain ⟨e1, e2⟩ := jo_yes (b := 0) gf
  have d0 : decide (128 < (x.tones.length : Int) + y.tones.length) = false := by unfold joFits at gf; simp; omega
  have e3 : joL x y 0 = x.tones ++ y.tones := by
    unfold joL
    rw [show y.tones.map (shF 0) = y.tones.map id from List.map_congr_left fun t _ => by cases t; simp [shF], List.map_id]
  rw [e3] at e1 e2
  have E1 := Lib.hid (E1.out.trans e1); have E2 := Lib.hid (E2.out.trans e2); clear e1 e2 e3 gf
  go_enter Try.func41, Try.ntmps41
  go_wp2_with fail
  refine (l25Ok_any _ (.slice a x.tones.length ca) x _ ⟨by simp [go_sem], by simp [go_sem], hlv.mono (by (repeat (first | with_reducible exact Below.refl _ _ | with_reducible exact hbw | (with_reducible refine Below.setCell ?_ ?_ _; rotate_left; · first | exact Nat.le_refl _ | omega | (simp; done) | (simp; omega)) | (with_reducible refine Below.alloc ?_ ?_ _; rotate_left; · first | exact Nat.le_refl _ | omega | (simp; done) | (simp; omega)) | with_reducible refine below_drewN ?_ _ | with_reducible refine Below.drew ?_))), hn⟩).mono ?_
  rintro e w1 ⟨rfl, hb⟩
  have HB := Lib.hid (show Below w.heap.size w w1 from Below.trans (by (repeat (first | with_reducible exact Below.refl _ _ | with_reducible exact hbw | (with_reducible refine Below.setCell ?_ ?_ _; rotate_left; · first | exact Nat.le_refl _ | omega | (simp; done) | (simp; omega)) | (with_reducible refine Below.alloc ?_ ?_ _; rotate_left; · first | exact Nat.le_refl _ | omega | (simp; done) | (simp; omega)) | with_reducible refine below_drewN ?_ _ | with_reducible refine Below.drew ?_))) (hb.mono (by simp <;> omega)))
  have hz : w.heap.size + 3 ≤ w1.heap.size := by have := hb.size; simp at this; omega
  have z0 : w1.cell? ⟨w.heap.size, 0, none⟩ = some (.string x.name) := cellB hb (by simp [go_sem])
  have z1 : w1.cell? ⟨w.heap.size, 1, none⟩ = some (.slice a x.tones.length ca) := cellB hb (by simp [go_sem])
  have u0 : w1.cell? ⟨w.heap.size + 1, 0, none⟩ = some (.string y.name) := cellB hb (by simp [go_sem])
  have u1 : w1.cell? ⟨w.heap.size + 1, 1, none⟩ = some (.slice c y.tones.length cc) := cellB hb (by simp [go_sem])
  have r0 : w1.cell? ⟨w.heap.size + 2, 0, none⟩ = some (.string ⟨#[]⟩) := cellB hb (by simp [go_sem])
  have r1 : w1.cell? ⟨w.heap.size + 2, 1, none⟩ = some (.slice none 0 0) := cellB hb (by simp [go_sem])
  have f0 : w1.frozen? ⟨w.heap.size + 2, 0, none⟩ = false := frozenL hb (by simp) (by simp [go_sem])
  have f1 : w1.frozen? ⟨w.heap.size + 2, 1, none⟩ = false := frozenL hb (by simp) (by simp [go_sem])
  have hz0 : w.heap.size < w1.heap.size := by omega
  have hz1 : w.heap.size + 1 < w1.heap.size := by omega
  have hz2 : w.heap.size + 2 < w1.heap.size := by omega
  clear hb
  rw [GX.out]
  go_wp2_with fail
  refine (l25Ok_any _ (.slice c y.tones.length cc) y _ ⟨u0, u1, hlw.mono (HB.out), hn2⟩).mono ?_
  rintro e w2 ⟨rfl, hb⟩
  have hzb := hb.size
  have z0 := cellB hb z0
  have z1 := cellB hb z1
  have u0 := cellB hb u0
  have u1 := cellB hb u1
  have r0 := cellB hb r0
  have r1 := cellB hb r1
  have f0 := frozenL hb (by simp; omega) f0
  have f1 := frozenL hb (by simp; omega) f1
  have HB := Lib.hid (HB.out.trans (hb.mono HB.out.size))
  have hz : w.heap.size + 3 ≤ w2.heap.size := by omega
  have hz0 : w.heap.size < w2.heap.size := by omega
  have hz1 : w.heap.size + 1 < w2.heap.size := by omega
  have hz2 : w.heap.size + 2 < w2.heap.size := by omega
  clear hb hzb
  rw [GY.out]
  have n0 : ∀ o x, (ext w2.drew (some (w.heap.size + 2)) x).cell? ⟨w.heap.size, o, none⟩ = w2.drew.cell? ⟨w.heap.size, o, none⟩ := fun o x => cell?_ext hz0 (by simp)
  have n1 : ∀ o x, (ext w2.drew (some (w.heap.size + 2)) x).cell? ⟨w.heap.size + 1, o, none⟩ = w2.drew.cell? ⟨w.heap.size + 1, o, none⟩ := fun o x => cell?_ext hz1 (by simp)
  obtain ⟨nx, hnx⟩ : ∃ nx, nx = x.tones.length := ⟨_, rfl⟩
  obtain ⟨ny, hny⟩ : ∃ ny, ny = y.tones.length := ⟨_, rfl⟩
  go_wp2_with fail
  refine wp_region_ordG [(0, 1), (1, 1), (3, 1), (4, 1), (6, 1), (7, 1), (2, 0), (5, 0), (8, 0), (9, 0), (10, 0), (11, 0), (12, 1), (13, 1), (14, 0), (15, 1)] [2, 5, 8, 9, 10, 11, 14] (some (w.heap.size + 2)) (by kernel_rfl) (by kernel_rfl) ?_
  (repeat ((first | with_reducible refine wpOrdG_soft (fun K hK => ?_) | with_reducible refine wpOrdG_pre (fun K hK => ?_)); simp only [List.getElem?_toArray, List.getElem?_cons_zero, List.getElem?_cons_succ]; first | (go_simp; refine hK _ ?_) | (simp only [undef]; go_simp; refine hK _ ?_); clear hK K))
  (with_reducible refine wpOrdG_hard ?_; simp only [List.getElem?_toArray, List.getElem?_cons_zero, List.getElem?_cons_succ])
  go_wp2_with fail
  refine And.intro (grown_row' (belowA _ _)) ?_
  (repeat ((first | with_reducible refine wpOrdG_soft (fun K hK => ?_) | with_reducible refine wpOrdG_pre (fun K hK => ?_)); simp only [List.getElem?_toArray, List.getElem?_cons_zero, List.getElem?_cons_succ]; first | (go_simp; refine hK _ ?_) | (simp only [undef]; go_simp; refine hK _ ?_); clear hK K))
  (with_reducible refine wpOrdG_hard ?_; simp only [List.getElem?_toArray, List.getElem?_cons_zero, List.getElem?_cons_succ])
  refine append_all rfl _ _ 27 rfl w2.heap.size 55 _ 3 24 Try.underlying27 info_Tone rfl (by decide) (.slice (some ⟨w2.heap.size, 0, none⟩) 0 0) 0 [] rfl (owns_empty w2.drew 55 3 w2.heap.size (Nat.le_refl _)) (.slice a x.tones.length ca) x.tones.length (x.tones.flatMap Ton.cells) rfl (hlv.mono (by have hbw := HB.out; (repeat (first | with_reducible exact Below.refl _ _ | with_reducible exact hbw | (with_reducible refine Below.setCell ?_ ?_ _; rotate_left; · first | exact Nat.le_refl _ | omega | (simp; done) | (simp; omega)) | (with_reducible refine Below.alloc ?_ ?_ _; rotate_left; · first | exact Nat.le_refl _ | omega | (simp; done) | (simp; omega)) | with_reducible refine below_drewN ?_ _ | with_reducible refine Below.drew ?_)))) (Ton.len_cells _) (Ton.one _) (by omega) (by decide) (by simp) ?_
  intro a4 c4 w4 ho4 hg4 hb4
  rw [Nat.zero_add, List.nil_append] at ho4
  rw [Nat.zero_add]
  have hbd4 : Below w2.heap.size w2.drew w4 := below_2drew hb4 rfl
  have hbw4 := HB.out.trans ((undrew hbd4).mono HB.out.size)
  have hz4 := hbd4.size
  simp at hz4
  have HO4 := Lib.hid ho4; have D4 := Lib.hid hbd4; have W4 := Lib.hid hbw4
  clear ho4 hg4 hb4 hbd4 hbw4
  go_wp2_with fail
  refine And.intro (grown_rowD D4.out) ?_
  (repeat ((first | with_reducible refine wpOrdG_soft (fun K hK => ?_) | with_reducible refine wpOrdG_pre (fun K hK => ?_)); simp only [List.getElem?_toArray, List.getElem?_cons_zero, List.getElem?_cons_succ]; first | (go_simp; refine hK _ ?_) | (simp only [undef]; go_simp; refine hK _ ?_); clear hK K))
  (with_reducible refine wpOrdG_hard ?_; simp only [List.getElem?_toArray, List.getElem?_cons_zero, List.getElem?_cons_succ])
  refine append_all rfl _ _ 27 rfl w2.heap.size 55 _ 3 24 Try.underlying27 info_Tone rfl (by decide) _ x.tones.length _ rfl HO4.out (.slice c y.tones.length cc) y.tones.length (y.tones.flatMap Ton.cells) rfl (hlw.mono W4.out) (Ton.len_cells _) (Ton.one _) (by omega) (by decide) (by omega) ?_
  intro a5 c5 w5 ho5 hg5 hb5
  have hbd5 : Below w2.heap.size w2.drew w5 := D4.out.trans hb5
  have hbw5 := HB.out.trans ((undrew hbd5).mono HB.out.size)
  have hz5 := hbd5.size
  simp at hz5
  have hto : Tons w5 (.slice a5 (x.tones.length + y.tones.length) c5) (x.tones ++ y.tones) := by
    have h1 : w5.ownsRow w2.heap.size 55 3 (.slice a5 (x.tones.length + y.tones.length) c5) (x.tones ++ y.tones).length ((x.tones ++ y.tones).flatMap Ton.cells) := by rw [List.length_append, List.flatMap_append]; exact ho5
    have h2 := Tons.of_owns h1
    exact h2
  have HTO := Lib.hid hto; have D5 := Lib.hid hbd5
  clear ho5 hg5 hb5 hbd5 hbw5 hto
  go_wp2_with fail
  refine And.intro (grown_rowD D5.out) ?_
  (repeat ((first | with_reducible refine wpOrdG_soft (fun K hK => ?_) | with_reducible refine wpOrdG_pre (fun K hK => ?_)); simp only [List.getElem?_toArray, List.getElem?_cons_zero, List.getElem?_cons_succ]; first | (go_simp; refine hK _ ?_) | (simp only [undef]; go_simp; refine hK _ ?_); clear hK K))
  (with_reducible refine wpOrdG_hard ?_; simp only [List.getElem?_toArray, List.getElem?_cons_zero, List.getElem?_cons_succ])
  go_wp2_with fail
  refine (l25Sorted_any _ (x.tones ++ y.tones) _ HTO.out (by rw [List.length_append]; omega)).mono ?_
  rintro e w6 ⟨v6, dd, rfl, hp6, hs6, ho6, hb6⟩
  obtain ⟨a6, c6, rfl⟩ := ho6.form
  rw [← hp6.length_eq] at ho6 ⊢
  have hz6 := hb6.size
  have hbd6 : Below w2.heap.size w2.drew w6 := D5.out.trans (hb6.mono hz5)
  have HO6 := Lib.hid (ho6.wide (B' := w2.heap.size) (E' := w6.heap.size) hz5 (Nat.le_refl _)); have HP6 := Lib.hid hp6; have HS6 := Lib.hid hs6; have D6 := Lib.hid hbd6
  clear ho6 hp6 hs6 hb6 hbd6
  go_wp2_with fail
  refine And.intro (grown_rowD D6.out) ?_
  (repeat ((first | with_reducible refine wpOrdG_soft (fun K hK => ?_) | with_reducible refine wpOrdG_pre (fun K hK => ?_)); simp only [List.getElem?_toArray, List.getElem?_cons_zero, List.getElem?_cons_succ]; first | (go_simp; refine hK _ ?_) | (simp only [undef]; go_simp; refine hK _ ?_); clear hK K))
  (with_reducible refine wpOrdG_hard ?_; simp only [List.getElem?_toArray, List.getElem?_cons_zero, List.getElem?_cons_succ])
  go_wp2_with fail
  refine And.intro (grown_rowD D6.out) ?_
  (repeat ((first | with_reducible refine wpOrdG_soft (fun K hK => ?_) | with_reducible refine wpOrdG_pre (fun K hK => ?_)); simp only [List.getElem?_toArray, List.getElem?_cons_zero, List.getElem?_cons_succ]; first | (go_simp; refine hK _ ?_) | (simp only [undef]; go_simp; refine hK _ ?_); clear hK K))
  (with_reducible refine wpOrdG_hard ?_; simp only [List.getElem?_toArray, List.getElem?_cons_zero, List.getElem?_cons_succ])
  go_wp2_with fail
  refine (l25Done_any w2.heap.size _ (.slice a6 dd.length c6) ⟨x.name, dd⟩ _ rfl HO6.out hn (by omega) HS6.out).mono ?_
  rintro e w7 ⟨v7, rfl, ho7, hb7⟩
  obtain ⟨tv, htv⟩ : ∃ tv, tv = toV x.name (x.tones ++ y.tones) := ⟨_, rfl⟩
  obtain ⟨tc, htc⟩ : ∃ tc, tc = toC x.name (x.tones ++ y.tones) := ⟨_, rfl⟩
  obtain ⟨pp1, pp2⟩ := to_perm (name := x.name) HP6.out
  rw [pp1, ← htv] at ho7
  rw [pp2, ← htc]
  obtain ⟨c7, cap7, rfl⟩ := ho7.form
  have hbd7 : Below w2.heap.size w2.drew w7 := D6.out.trans (hb7.mono (by omega))
  have hb27 := undrew hbd7
  have hz7 := hb27.size
  have r0 := cellB hb27 r0
  have r1 := cellB hb27 r1
  have f0 := frozenL hb27 (by simp; omega) f0
  have f1 := frozenL hb27 (by simp; omega) f1
  have hz8 : w.heap.size + 2 < w7.heap.size := by omega
  have G7 := Lib.hid (grown_rowD (row := some (w.heap.size + 2)) hbd7)
  have HB7 := Lib.hid (HB.out.trans (hb27.mono HB.out.size))
  have HO7 := Lib.hid ho7; have TV := Lib.hid htv; have TC := Lib.hid htc
  clear ho7 hb7 hbd7 hb27 pp1 pp2 htv htc
  go_wp2_with fail
  refine And.intro G7.out ?_
  (repeat ((first | with_reducible refine wpOrdG_soft (fun K hK => ?_) | with_reducible refine wpOrdG_pre (fun K hK => ?_)); simp only [List.getElem?_toArray, List.getElem?_cons_zero, List.getElem?_cons_succ]; first | (go_simp; refine hK _ ?_) | (simp only [undef]; go_simp; refine hK _ ?_); clear hK K))
  (with_reducible refine wpOrdG_hard ?_; simp only [List.getElem?_toArray, List.getElem?_cons_zero, List.getElem?_cons_succ])
  go_wp2_with fail
  refine And.intro (grown_setD (grown_setD G7.out _ _) _ _) ?_
  (repeat ((first | with_reducible refine wpOrdG_soft (fun K hK => ?_) | with_reducible refine wpOrdG_pre (fun K hK => ?_)); simp only [List.getElem?_toArray, List.getElem?_cons_zero, List.getElem?_cons_succ]; first | (go_simp; refine hK _ ?_) | (simp only [undef]; go_simp; refine hK _ ?_); clear hK K))
  (with_reducible refine wpOrdG_nil ?_); refine NoPanic.normal ?_
  go_wp2
  refine bodyPost_ret (v := .tuple #[.agg #[.string tv.name, .slice c7 tv.tones.length cap7], .int .i64 tc]) (by simp [results, Try.results41, go_sem, hz8, r0, r1]) rfl ⟨_, by rw [E2.out, TC.out], ?_, ?_⟩
  · rw [E1.out, ← TV.out]
    refine (HO7.out.touch (B' := w.heap.size + 2) (E' := w.heap.size + 3) ?_ (Or.inr (by omega))).wide (by omega) (by simp)
    have htc := Touch.refl (w.heap.size + 2) (w.heap.size + 3) w7
    (repeat (first | with_reducible exact Touch.refl _ _ _ | with_reducible exact htc | (with_reducible refine Touch.setCell ?_ ?_ _; rotate_left; · (simp only; omega)) | (with_reducible refine Touch.setNew ?_ ?_ _; rotate_left; · (first | (simp only; omega) | (simp; done) | (simp; omega))) | with_reducible refine Touch.alloc ?_ _ | with_reducible refine Touch.drewN ?_ _ | with_reducible refine Touch.drew ?_))
  · have hbw := HB7.out
    (repeat (first | with_reducible exact Below.refl _ _ | with_reducible exact hbw | (with_reducible refine Below.setCell ?_ ?_ _; rotate_left; · first | exact Nat.le_refl _ | omega | (simp; done) | (simp; omega)) | (with_reducible refine Below.alloc ?_ ?_ _; rotate_left; · first | exact Nat.le_refl _ | omega | (simp; done) | (simp; omega)) | with_reducible refine below_drewN ?_ _ | with_reducible refine Below.drew ?_))

end Go.Proofs.Ytfnbjegbaobpnaa
