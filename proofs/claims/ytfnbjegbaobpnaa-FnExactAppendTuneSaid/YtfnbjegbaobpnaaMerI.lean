/- Contract of impl.MergeTunes. -/
import Derived.Test.YtfnbjegbaobpnaaJoined
import Derived.Test.YtfnbjegbaobpnaaRevI
set_option linter.unusedSimpArgs false
set_option linter.unnecessarySimpa false
set_option linter.unusedVariables false
set_option maxRecDepth 100000
namespace Go.Proofs.Ytfnbjegbaobpnaa
open Go.RowKit

noncomputable def meV (x y : TunD) : TunD := if validTunB x = true then if validTunB y = true then joV x y 0 else ⟨.empty, []⟩ else ⟨.empty, []⟩
noncomputable def meC (x y : TunD) : Int := if validTunB x = true then if validTunB y = true then joC x y 0 else 1 else 1
theorem me_yes {x y : TunD} (h : validTunB x = true) (h2 : validTunB y = true) : meV x y = joV x y 0 ∧ meC x y = joC x y 0 := by unfold meV meC; rw [if_pos h, if_pos h, if_pos h2, if_pos h2]; exact ⟨rfl, rfl⟩
theorem me_y {x y : TunD} (h : validTunB x = true) (h2 : ¬ validTunB y = true) : meV x y = ⟨.empty, []⟩ ∧ meC x y = 1 := by unfold meV meC; rw [if_pos h, if_pos h, if_neg h2, if_neg h2]; exact ⟨rfl, rfl⟩
theorem me_x {x y : TunD} (h : ¬ validTunB x = true) : meV x y = ⟨.empty, []⟩ ∧ meC x y = 1 := by unfold meV meC; rw [if_neg h, if_neg h]; exact ⟨rfl, rfl⟩

set_option maxHeartbeats 2000000 in
theorem implMergeTunes_any (v : Value) (x : TunD) (v2 : Value) (y : TunD) (w : World) (h : RdTun w v x) (ok : x.ok) (hs : x.tones.length ≤ 1048576) (h2 : RdTun w v2 y) (ok2 : y.ok) (hs2 : y.tones.length ≤ 1048576) :
    Calls Try.prog 42 #[v, v2] w fun e w' => ∃ v', e = .returned (.tuple #[v', .int .i64 (meC x y)]) ∧ OwnTun w.heap.size w'.heap.size w' v' (meV x y) ∧ Below w.heap.size w w' := by
  obtain ⟨lv, rfl, hlv⟩ := h
  obtain ⟨lw, rfl, hlw⟩ := h2
  obtain ⟨a, ca, rfl, hca, hcm, _⟩ := id hlv
  obtain ⟨c, cc, rfl, hcc, hcm2, _⟩ := id hlw
  have hn := ok.1
  have hn2 := ok2.1
  by_cases gx : validTunB x = true
  rotate_left
  · obtain ⟨e1, e2⟩ := me_x (y := y) gx
    have E1 := Lib.hid e1; have E2 := Lib.hid e2; have G := Lib.hid (show validTunB x = false by simpa using gx); clear e1 e2 gx
    go_enter Try.func42, Try.ntmps42
    go_wp2_with fail
    refine (implValidTun_any _ (.slice a x.tones.length ca) x _ ⟨rfl, hlv.mono (by (repeat (first | with_reducible exact Below.refl _ _ | with_reducible exact hbw | (with_reducible refine Below.setCell ?_ ?_ _; rotate_left; · first | exact Nat.le_refl _ | omega | (simp; done) | (simp; omega)) | (with_reducible refine Below.alloc ?_ ?_ _; rotate_left; · first | exact Nat.le_refl _ | omega | (simp; done) | (simp; omega)) | with_reducible refine below_drewN ?_ _ | with_reducible refine Below.drew ?_)))⟩ hn).mono ?_
    rintro e w1 ⟨rfl, hb⟩
    have HB := Lib.hid (show Below w.heap.size w w1 from Below.trans (by (repeat (first | with_reducible exact Below.refl _ _ | with_reducible exact hbw | (with_reducible refine Below.setCell ?_ ?_ _; rotate_left; · first | exact Nat.le_refl _ | omega | (simp; done) | (simp; omega)) | (with_reducible refine Below.alloc ?_ ?_ _; rotate_left; · first | exact Nat.le_refl _ | omega | (simp; done) | (simp; omega)) | with_reducible refine below_drewN ?_ _ | with_reducible refine Below.drew ?_))) (hb.mono (by simp <;> omega)))
    have hz : w.heap.size + 3 ≤ w1.heap.size := by have := hb.size; simp at this; omega
    have z0 : w1.cell? ⟨w.heap.size, 0, none⟩ = some (.string x.name) := cellB hb (by simp [go_sem])
    have z1 : w1.cell? ⟨w.heap.size, 1, none⟩ = some (.slice a x.tones.length ca) := cellB hb (by simp [go_sem])
    have u0 : w1.cell? ⟨w.heap.size + 1, 0, none⟩ = some (.string y.name) := cellB hb (by simp [go_sem])
    have u1 : w1.cell? ⟨w.heap.size + 1, 1, none⟩ = some (.slice c y.tones.length cc) := cellB hb (by simp [go_sem])
    have r0 : w1.cell? ⟨w.heap.size + 2, 0, none⟩ = some (.string ⟨#[]⟩) := cellB hb (by simp [go_sem])
    have r1 : w1.cell? ⟨w.heap.size + 2, 1, none⟩ = some (.slice none 0 0) := cellB hb (by simp [go_sem])
    have f0 : w1.frozen? ⟨w.heap.size + 2, 0, none⟩ = false := frozenL hb (by simp) (by simp [go_sem])
    have f1 : w1.frozen? ⟨w.heap.size + 2, 1, none⟩ = false := frozenL hb (by simp) (by simp [go_sem])
    have hz0 : w.heap.size < w1.heap.size := by omega
    have hz1 : w.heap.size + 1 < w1.heap.size := by omega
    have hz2 : w.heap.size + 2 < w1.heap.size := by omega
    clear hb
    rw [G.out]
    go_wp2
    refine bodyPost_ret (v := .tuple #[.agg #[.string ⟨#[]⟩, .slice none 0 0], .int .i64 1]) (by simp [results, Try.results42, go_sem, hz2, r0, r1]) rfl ⟨_, by rw [E2.out], by rw [E1.out]; exact ownT_zero _ _ _, ?_⟩
    have hbw := HB.out
    (repeat (first | with_reducible exact Below.refl _ _ | with_reducible exact hbw | (with_reducible refine Below.setCell ?_ ?_ _; rotate_left; · first | exact Nat.le_refl _ | omega | (simp; done) | (simp; omega)) | (with_reducible refine Below.alloc ?_ ?_ _; rotate_left; · first | exact Nat.le_refl _ | omega | (simp; done) | (simp; omega)) | with_reducible refine below_drewN ?_ _ | with_reducible refine Below.drew ?_))
  by_cases gy : validTunB y = true
  rotate_left
  · obtain ⟨e1, e2⟩ := me_y gx gy
    have E1 := Lib.hid e1; have E2 := Lib.hid e2; have GX := Lib.hid gx; have GY := Lib.hid (show validTunB y = false by simpa using gy); clear e1 e2 gx gy
    go_enter Try.func42, Try.ntmps42
    go_wp2_with fail
    refine (implValidTun_any _ (.slice a x.tones.length ca) x _ ⟨rfl, hlv.mono (by (repeat (first | with_reducible exact Below.refl _ _ | with_reducible exact hbw | (with_reducible refine Below.setCell ?_ ?_ _; rotate_left; · first | exact Nat.le_refl _ | omega | (simp; done) | (simp; omega)) | (with_reducible refine Below.alloc ?_ ?_ _; rotate_left; · first | exact Nat.le_refl _ | omega | (simp; done) | (simp; omega)) | with_reducible refine below_drewN ?_ _ | with_reducible refine Below.drew ?_)))⟩ hn).mono ?_
    rintro e w1 ⟨rfl, hb⟩
    have HB := Lib.hid (show Below w.heap.size w w1 from Below.trans (by (repeat (first | with_reducible exact Below.refl _ _ | with_reducible exact hbw | (with_reducible refine Below.setCell ?_ ?_ _; rotate_left; · first | exact Nat.le_refl _ | omega | (simp; done) | (simp; omega)) | (with_reducible refine Below.alloc ?_ ?_ _; rotate_left; · first | exact Nat.le_refl _ | omega | (simp; done) | (simp; omega)) | with_reducible refine below_drewN ?_ _ | with_reducible refine Below.drew ?_))) (hb.mono (by simp <;> omega)))
    have hz : w.heap.size + 3 ≤ w1.heap.size := by have := hb.size; simp at this; omega
    have z0 : w1.cell? ⟨w.heap.size, 0, none⟩ = some (.string x.name) := cellB hb (by simp [go_sem])
    have z1 : w1.cell? ⟨w.heap.size, 1, none⟩ = some (.slice a x.tones.length ca) := cellB hb (by simp [go_sem])
    have u0 : w1.cell? ⟨w.heap.size + 1, 0, none⟩ = some (.string y.name) := cellB hb (by simp [go_sem])
    have u1 : w1.cell? ⟨w.heap.size + 1, 1, none⟩ = some (.slice c y.tones.length cc) := cellB hb (by simp [go_sem])
    have r0 : w1.cell? ⟨w.heap.size + 2, 0, none⟩ = some (.string ⟨#[]⟩) := cellB hb (by simp [go_sem])
    have r1 : w1.cell? ⟨w.heap.size + 2, 1, none⟩ = some (.slice none 0 0) := cellB hb (by simp [go_sem])
    have f0 : w1.frozen? ⟨w.heap.size + 2, 0, none⟩ = false := frozenL hb (by simp) (by simp [go_sem])
    have f1 : w1.frozen? ⟨w.heap.size + 2, 1, none⟩ = false := frozenL hb (by simp) (by simp [go_sem])
    have hz0 : w.heap.size < w1.heap.size := by omega
    have hz1 : w.heap.size + 1 < w1.heap.size := by omega
    have hz2 : w.heap.size + 2 < w1.heap.size := by omega
    clear hb
    rw [GX.out]
    go_wp2_with fail
    refine (implValidTun_any _ (.slice c y.tones.length cc) y _ ⟨rfl, hlw.mono (HB.out)⟩ hn2).mono ?_
    rintro e w2 ⟨rfl, hb⟩
    have hzb := hb.size
    have z0 := cellB hb z0
    have z1 := cellB hb z1
    have u0 := cellB hb u0
    have u1 := cellB hb u1
    have r0 := cellB hb r0
    have r1 := cellB hb r1
    have f0 := frozenL hb (by simp; omega) f0
    have f1 := frozenL hb (by simp; omega) f1
    have HB := Lib.hid (HB.out.trans (hb.mono HB.out.size))
    have hz : w.heap.size + 3 ≤ w2.heap.size := by omega
    have hz0 : w.heap.size < w2.heap.size := by omega
    have hz1 : w.heap.size + 1 < w2.heap.size := by omega
    have hz2 : w.heap.size + 2 < w2.heap.size := by omega
    clear hb hzb
    rw [GY.out]
    go_wp2
    refine bodyPost_ret (v := .tuple #[.agg #[.string ⟨#[]⟩, .slice none 0 0], .int .i64 1]) (by simp [results, Try.results42, go_sem, hz2, r0, r1]) rfl ⟨_, by rw [E2.out], by rw [E1.out]; exact ownT_zero _ _ _, ?_⟩
    have hbw := HB.out
    (repeat (first | with_reducible exact Below.refl _ _ | with_reducible exact hbw | (with_reducible refine Below.setCell ?_ ?_ _; rotate_left; · first | exact Nat.le_refl _ | omega | (simp; done) | (simp; omega)) | (with_reducible refine Below.alloc ?_ ?_ _; rotate_left; · first | exact Nat.le_refl _ | omega | (simp; done) | (simp; omega)) | with_reducible refine below_drewN ?_ _ | with_reducible refine Below.drew ?_))
  obtain ⟨e1, e2⟩ := me_yes gx gy
  have E1 := Lib.hid e1; have E2 := Lib.hid e2; have GX := Lib.hid gx; have GY := Lib.hid gy; clear e1 e2 gx gy
  go_enter Try.func42, Try.ntmps42
  go_wp2_with fail
  refine (implValidTun_any _ (.slice a x.tones.length ca) x _ ⟨rfl, hlv.mono (by (repeat (first | with_reducible exact Below.refl _ _ | with_reducible exact hbw | (with_reducible refine Below.setCell ?_ ?_ _; rotate_left; · first | exact Nat.le_refl _ | omega | (simp; done) | (simp; omega)) | (with_reducible refine Below.alloc ?_ ?_ _; rotate_left; · first | exact Nat.le_refl _ | omega | (simp; done) | (simp; omega)) | with_reducible refine below_drewN ?_ _ | with_reducible refine Below.drew ?_)))⟩ hn).mono ?_
  rintro e w1 ⟨rfl, hb⟩
  have HB := Lib.hid (show Below w.heap.size w w1 from Below.trans (by (repeat (first | with_reducible exact Below.refl _ _ | with_reducible exact hbw | (with_reducible refine Below.setCell ?_ ?_ _; rotate_left; · first | exact Nat.le_refl _ | omega | (simp; done) | (simp; omega)) | (with_reducible refine Below.alloc ?_ ?_ _; rotate_left; · first | exact Nat.le_refl _ | omega | (simp; done) | (simp; omega)) | with_reducible refine below_drewN ?_ _ | with_reducible refine Below.drew ?_))) (hb.mono (by simp <;> omega)))
  have hz : w.heap.size + 3 ≤ w1.heap.size := by have := hb.size; simp at this; omega
  have z0 : w1.cell? ⟨w.heap.size, 0, none⟩ = some (.string x.name) := cellB hb (by simp [go_sem])
  have z1 : w1.cell? ⟨w.heap.size, 1, none⟩ = some (.slice a x.tones.length ca) := cellB hb (by simp [go_sem])
  have u0 : w1.cell? ⟨w.heap.size + 1, 0, none⟩ = some (.string y.name) := cellB hb (by simp [go_sem])
  have u1 : w1.cell? ⟨w.heap.size + 1, 1, none⟩ = some (.slice c y.tones.length cc) := cellB hb (by simp [go_sem])
  have r0 : w1.cell? ⟨w.heap.size + 2, 0, none⟩ = some (.string ⟨#[]⟩) := cellB hb (by simp [go_sem])
  have r1 : w1.cell? ⟨w.heap.size + 2, 1, none⟩ = some (.slice none 0 0) := cellB hb (by simp [go_sem])
  have f0 : w1.frozen? ⟨w.heap.size + 2, 0, none⟩ = false := frozenL hb (by simp) (by simp [go_sem])
  have f1 : w1.frozen? ⟨w.heap.size + 2, 1, none⟩ = false := frozenL hb (by simp) (by simp [go_sem])
  have hz0 : w.heap.size < w1.heap.size := by omega
  have hz1 : w.heap.size + 1 < w1.heap.size := by omega
  have hz2 : w.heap.size + 2 < w1.heap.size := by omega
  clear hb
  rw [GX.out]
  go_wp2_with fail
  refine (implValidTun_any _ (.slice c y.tones.length cc) y _ ⟨rfl, hlw.mono (HB.out)⟩ hn2).mono ?_
  rintro e w2 ⟨rfl, hb⟩
  have hzb := hb.size
  have z0 := cellB hb z0
  have z1 := cellB hb z1
  have u0 := cellB hb u0
  have u1 := cellB hb u1
  have r0 := cellB hb r0
  have r1 := cellB hb r1
  have f0 := frozenL hb (by simp; omega) f0
  have f1 := frozenL hb (by simp; omega) f1
  have HB := Lib.hid (HB.out.trans (hb.mono HB.out.size))
  have hz : w.heap.size + 3 ≤ w2.heap.size := by omega
  have hz0 : w.heap.size < w2.heap.size := by omega
  have hz1 : w.heap.size + 1 < w2.heap.size := by omega
  have hz2 : w.heap.size + 2 < w2.heap.size := by omega
  clear hb hzb
  rw [GY.out]
  go_wp2_with fail
  refine (joined_any _ (.slice a x.tones.length ca) _ (.slice c y.tones.length cc) x y 0 _ ⟨rfl, hlv.mono HB.out⟩ ⟨rfl, hlw.mono HB.out⟩ hn GX.out GY.out (by decide) (by decide)).mono ?_
  rintro e w5 ⟨v5, rfl, ho5, hb5⟩
  obtain ⟨c5, cap5, rfl⟩ := ho5.form
  have hz5 := hb5.size
  have r0 := cellB hb5 r0
  have r1 := cellB hb5 r1
  have f0 := frozenL hb5 (by simp; omega) f0
  have f1 := frozenL hb5 (by simp; omega) f1
  have hz6 : w.heap.size + 2 < w5.heap.size := by omega
  have HB5 := Lib.hid (HB.out.trans (hb5.mono HB.out.size))
  have HO5 := Lib.hid ho5
  clear hb5 ho5
  go_wp2
  refine bodyPost_ret (v := .tuple #[.agg #[.string (joV x y 0).name, .slice c5 (joV x y 0).tones.length cap5], .int .i64 (joC x y 0)]) (by simp [results, Try.results42, go_sem, hz6, r0, r1]) rfl ⟨_, by rw [E2.out], ?_, ?_⟩
  · rw [E1.out]
    refine (HO5.out.touch (B' := w.heap.size + 2) (E' := w.heap.size + 3) ?_ (Or.inr (by omega))).wide (by omega) (by simp)
    have htc := Touch.refl (w.heap.size + 2) (w.heap.size + 3) w5
    (repeat (first | with_reducible exact Touch.refl _ _ _ | with_reducible exact htc | (with_reducible refine Touch.setCell ?_ ?_ _; rotate_left; · (simp only; omega)) | (with_reducible refine Touch.setNew ?_ ?_ _; rotate_left; · (first | (simp only; omega) | (simp; done) | (simp; omega))) | with_reducible refine Touch.alloc ?_ _ | with_reducible refine Touch.drewN ?_ _ | with_reducible refine Touch.drew ?_))
  · have hbw := HB5.out
    (repeat (first | with_reducible exact Below.refl _ _ | with_reducible exact hbw | (with_reducible refine Below.setCell ?_ ?_ _; rotate_left; · first | exact Nat.le_refl _ | omega | (simp; done) | (simp; omega)) | (with_reducible refine Below.alloc ?_ ?_ _; rotate_left; · first | exact Nat.le_refl _ | omega | (simp; done) | (simp; omega)) | with_reducible refine below_drewN ?_ _ | with_reducible refine Below.drew ?_))

end Go.Proofs.Ytfnbjegbaobpnaa
