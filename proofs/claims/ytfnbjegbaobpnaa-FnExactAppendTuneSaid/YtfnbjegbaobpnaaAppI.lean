/- Contract of impl.AppendTune. -/
import Derived.Test.YtfnbjegbaobpnaaJoined
import Derived.Test.YtfnbjegbaobpnaaRevI
set_option linter.unusedSimpArgs false
set_option linter.unnecessarySimpa false
set_option linter.unusedVariables false
set_option maxRecDepth 100000
namespace Go.Proofs.Ytfnbjegbaobpnaa
open Go.RowKit

def gapIn (g : Int) : Prop := 0 ≤ g ∧ g ≤ 20000
instance (g : Int) : Decidable (gapIn g) := by unfold gapIn; infer_instance
noncomputable def apV (x y : TunD) (g : Int) : TunD := if validTunB x = true then if validTunB y = true then if gapIn g then joV x y (endOf x.tones + g) else ⟨.empty, []⟩ else ⟨.empty, []⟩ else ⟨.empty, []⟩
noncomputable def apC (x y : TunD) (g : Int) : Int := if validTunB x = true then if validTunB y = true then if gapIn g then joC x y (endOf x.tones + g) else 2 else 1 else 1
theorem ap_yes {x y : TunD} {g : Int} (h : validTunB x = true) (h2 : validTunB y = true) (h3 : gapIn g) : apV x y g = joV x y (endOf x.tones + g) ∧ apC x y g = joC x y (endOf x.tones + g) := by unfold apV apC; rw [if_pos h, if_pos h, if_pos h2, if_pos h2, if_pos h3, if_pos h3]; exact ⟨rfl, rfl⟩
theorem ap_rng {x y : TunD} {g : Int} (h : validTunB x = true) (h2 : validTunB y = true) (h3 : ¬ gapIn g) : apV x y g = ⟨.empty, []⟩ ∧ apC x y g = 2 := by unfold apV apC; rw [if_pos h, if_pos h, if_pos h2, if_pos h2, if_neg h3, if_neg h3]; exact ⟨rfl, rfl⟩
theorem ap_y {x y : TunD} {g : Int} (h : validTunB x = true) (h2 : ¬ validTunB y = true) : apV x y g = ⟨.empty, []⟩ ∧ apC x y g = 1 := by unfold apV apC; rw [if_pos h, if_pos h, if_neg h2, if_neg h2]; exact ⟨rfl, rfl⟩
theorem ap_x {x y : TunD} {g : Int} (h : ¬ validTunB x = true) : apV x y g = ⟨.empty, []⟩ ∧ apC x y g = 1 := by unfold apV apC; rw [if_neg h, if_neg h]; exact ⟨rfl, rfl⟩

set_option maxHeartbeats 2000000 in
theorem implAppendTune_any (v : Value) (x : TunD) (v2 : Value) (y : TunD) (g : Int) (w : World) (h : RdTun w v x) (ok : x.ok) (hs : x.tones.length ≤ 1048576) (h2 : RdTun w v2 y) (ok2 : y.ok) (hs2 : y.tones.length ≤ 1048576) (_ : I64 g) :
    Calls Try.prog 40 #[v, v2, .int .i64 g] w fun e w' => ∃ v', e = .returned (.tuple #[v', .int .i64 (apC x y g)]) ∧ OwnTun w.heap.size w'.heap.size w' v' (apV x y g) ∧ Below w.heap.size w w' := by
  obtain ⟨lv, rfl, hlv⟩ := h
  obtain ⟨lw, rfl, hlw⟩ := h2
  obtain ⟨a, ca, rfl, hca, hcm, _⟩ := id hlv
  obtain ⟨c, cc, rfl, hcc, hcm2, _⟩ := id hlw
  have hn := ok.1
  have hn2 := ok2.1
  by_cases gx : validTunB x = true
  rotate_left
  · obtain ⟨e1, e2⟩ := ap_x (y := y) (g := g) gx
    have E1 := Lib.hid e1; have E2 := Lib.hid e2; have G := Lib.hid (show validTunB x = false by simpa using gx); clear e1 e2 gx
    go_enter Try.func40, Try.ntmps40
    go_wp2_with fail
    refine (implValidTun_any _ (.slice a x.tones.length ca) x _ ⟨rfl, hlv.mono (by (repeat (first | with_reducible exact Below.refl _ _ | with_reducible exact hbw | (with_reducible refine Below.setCell ?_ ?_ _; rotate_left; · first | exact Nat.le_refl _ | omega | (simp; done) | (simp; omega)) | (with_reducible refine Below.alloc ?_ ?_ _; rotate_left; · first | exact Nat.le_refl _ | omega | (simp; done) | (simp; omega)) | with_reducible refine below_drewN ?_ _ | with_reducible refine Below.drew ?_)))⟩ hn).mono ?_
    rintro e w1 ⟨rfl, hb⟩
    have HB := Lib.hid (show Below w.heap.size w w1 from Below.trans (by (repeat (first | with_reducible exact Below.refl _ _ | with_reducible exact hbw | (with_reducible refine Below.setCell ?_ ?_ _; rotate_left; · first | exact Nat.le_refl _ | omega | (simp; done) | (simp; omega)) | (with_reducible refine Below.alloc ?_ ?_ _; rotate_left; · first | exact Nat.le_refl _ | omega | (simp; done) | (simp; omega)) | with_reducible refine below_drewN ?_ _ | with_reducible refine Below.drew ?_))) (hb.mono (by simp <;> omega)))
    have hz : w.heap.size + 3 ≤ w1.heap.size := by have := hb.size; simp at this; omega
    have z0 : w1.cell? ⟨w.heap.size, 0, none⟩ = some (.string x.name) := cellB hb (by simp [go_sem])
    have z1 : w1.cell? ⟨w.heap.size, 1, none⟩ = some (.slice a x.tones.length ca) := cellB hb (by simp [go_sem])
    have u0 : w1.cell? ⟨w.heap.size + 1, 0, none⟩ = some (.string y.name) := cellB hb (by simp [go_sem])
    have u1 : w1.cell? ⟨w.heap.size + 1, 1, none⟩ = some (.slice c y.tones.length cc) := cellB hb (by simp [go_sem])
    have r0 : w1.cell? ⟨w.heap.size + 2, 0, none⟩ = some (.string ⟨#[]⟩) := cellB hb (by simp [go_sem])
    have r1 : w1.cell? ⟨w.heap.size + 2, 1, none⟩ = some (.slice none 0 0) := cellB hb (by simp [go_sem])
    have f0 : w1.frozen? ⟨w.heap.size + 2, 0, none⟩ = false := frozenL hb (by simp) (by simp [go_sem])
    have f1 : w1.frozen? ⟨w.heap.size + 2, 1, none⟩ = false := frozenL hb (by simp) (by simp [go_sem])
    have hz0 : w.heap.size < w1.heap.size := by omega
    have hz1 : w.heap.size + 1 < w1.heap.size := by omega
    have hz2 : w.heap.size + 2 < w1.heap.size := by omega
    clear hb
    rw [G.out]
    go_wp2
    refine bodyPost_ret (v := .tuple #[.agg #[.string ⟨#[]⟩, .slice none 0 0], .int .i64 1]) (by simp [results, Try.results40, go_sem, hz2, r0, r1]) rfl ⟨_, by rw [E2.out], by rw [E1.out]; exact ownT_zero _ _ _, ?_⟩
    have hbw := HB.out
    (repeat (first | with_reducible exact Below.refl _ _ | with_reducible exact hbw | (with_reducible refine Below.setCell ?_ ?_ _; rotate_left; · first | exact Nat.le_refl _ | omega | (simp; done) | (simp; omega)) | (with_reducible refine Below.alloc ?_ ?_ _; rotate_left; · first | exact Nat.le_refl _ | omega | (simp; done) | (simp; omega)) | with_reducible refine below_drewN ?_ _ | with_reducible refine Below.drew ?_))
  by_cases gy : validTunB y = true
  rotate_left
  · obtain ⟨e1, e2⟩ := ap_y (g := g) gx gy
    have E1 := Lib.hid e1; have E2 := Lib.hid e2; have GX := Lib.hid gx; have GY := Lib.hid (show validTunB y = false by simpa using gy); clear e1 e2 gx gy
    go_enter Try.func40, Try.ntmps40
    go_wp2_with fail
    refine (implValidTun_any _ (.slice a x.tones.length ca) x _ ⟨rfl, hlv.mono (by (repeat (first | with_reducible exact Below.refl _ _ | with_reducible exact hbw | (with_reducible refine Below.setCell ?_ ?_ _; rotate_left; · first | exact Nat.le_refl _ | omega | (simp; done) | (simp; omega)) | (with_reducible refine Below.alloc ?_ ?_ _; rotate_left; · first | exact Nat.le_refl _ | omega | (simp; done) | (simp; omega)) | with_reducible refine below_drewN ?_ _ | with_reducible refine Below.drew ?_)))⟩ hn).mono ?_
    rintro e w1 ⟨rfl, hb⟩
    have HB := Lib.hid (show Below w.heap.size w w1 from Below.trans (by (repeat (first | with_reducible exact Below.refl _ _ | with_reducible exact hbw | (with_reducible refine Below.setCell ?_ ?_ _; rotate_left; · first | exact Nat.le_refl _ | omega | (simp; done) | (simp; omega)) | (with_reducible refine Below.alloc ?_ ?_ _; rotate_left; · first | exact Nat.le_refl _ | omega | (simp; done) | (simp; omega)) | with_reducible refine below_drewN ?_ _ | with_reducible refine Below.drew ?_))) (hb.mono (by simp <;> omega)))
    have hz : w.heap.size + 3 ≤ w1.heap.size := by have := hb.size; simp at this; omega
    have z0 : w1.cell? ⟨w.heap.size, 0, none⟩ = some (.string x.name) := cellB hb (by simp [go_sem])
    have z1 : w1.cell? ⟨w.heap.size, 1, none⟩ = some (.slice a x.tones.length ca) := cellB hb (by simp [go_sem])
    have u0 : w1.cell? ⟨w.heap.size + 1, 0, none⟩ = some (.string y.name) := cellB hb (by simp [go_sem])
    have u1 : w1.cell? ⟨w.heap.size + 1, 1, none⟩ = some (.slice c y.tones.length cc) := cellB hb (by simp [go_sem])
    have r0 : w1.cell? ⟨w.heap.size + 2, 0, none⟩ = some (.string ⟨#[]⟩) := cellB hb (by simp [go_sem])
    have r1 : w1.cell? ⟨w.heap.size + 2, 1, none⟩ = some (.slice none 0 0) := cellB hb (by simp [go_sem])
    have f0 : w1.frozen? ⟨w.heap.size + 2, 0, none⟩ = false := frozenL hb (by simp) (by simp [go_sem])
    have f1 : w1.frozen? ⟨w.heap.size + 2, 1, none⟩ = false := frozenL hb (by simp) (by simp [go_sem])
    have hz0 : w.heap.size < w1.heap.size := by omega
    have hz1 : w.heap.size + 1 < w1.heap.size := by omega
    have hz2 : w.heap.size + 2 < w1.heap.size := by omega
    clear hb
    rw [GX.out]
    go_wp2_with fail
    refine (implValidTun_any _ (.slice c y.tones.length cc) y _ ⟨rfl, hlw.mono (HB.out)⟩ hn2).mono ?_
    rintro e w2 ⟨rfl, hb⟩
    have hzb := hb.size
    have z0 := cellB hb z0
    have z1 := cellB hb z1
    have u0 := cellB hb u0
    have u1 := cellB hb u1
    have r0 := cellB hb r0
    have r1 := cellB hb r1
    have f0 := frozenL hb (by simp; omega) f0
    have f1 := frozenL hb (by simp; omega) f1
    have HB := Lib.hid (HB.out.trans (hb.mono HB.out.size))
    have hz : w.heap.size + 3 ≤ w2.heap.size := by omega
    have hz0 : w.heap.size < w2.heap.size := by omega
    have hz1 : w.heap.size + 1 < w2.heap.size := by omega
    have hz2 : w.heap.size + 2 < w2.heap.size := by omega
    clear hb hzb
    rw [GY.out]
    go_wp2
    refine bodyPost_ret (v := .tuple #[.agg #[.string ⟨#[]⟩, .slice none 0 0], .int .i64 1]) (by simp [results, Try.results40, go_sem, hz2, r0, r1]) rfl ⟨_, by rw [E2.out], by rw [E1.out]; exact ownT_zero _ _ _, ?_⟩
    have hbw := HB.out
    (repeat (first | with_reducible exact Below.refl _ _ | with_reducible exact hbw | (with_reducible refine Below.setCell ?_ ?_ _; rotate_left; · first | exact Nat.le_refl _ | omega | (simp; done) | (simp; omega)) | (with_reducible refine Below.alloc ?_ ?_ _; rotate_left; · first | exact Nat.le_refl _ | omega | (simp; done) | (simp; omega)) | with_reducible refine below_drewN ?_ _ | with_reducible refine Below.drew ?_))
  by_cases gg : gapIn g
  rotate_left
  · obtain ⟨e1, e2⟩ := ap_rng gx gy gg
    have E1 := Lib.hid e1; have E2 := Lib.hid e2; have GX := Lib.hid gx; have GY := Lib.hid gy; have GG := Lib.hid gg; clear e1 e2 gx gy gg
    go_enter Try.func40, Try.ntmps40
    go_wp2_with fail
    refine (implValidTun_any _ (.slice a x.tones.length ca) x _ ⟨rfl, hlv.mono (by (repeat (first | with_reducible exact Below.refl _ _ | with_reducible exact hbw | (with_reducible refine Below.setCell ?_ ?_ _; rotate_left; · first | exact Nat.le_refl _ | omega | (simp; done) | (simp; omega)) | (with_reducible refine Below.alloc ?_ ?_ _; rotate_left; · first | exact Nat.le_refl _ | omega | (simp; done) | (simp; omega)) | with_reducible refine below_drewN ?_ _ | with_reducible refine Below.drew ?_)))⟩ hn).mono ?_
    rintro e w1 ⟨rfl, hb⟩
    have HB := Lib.hid (show Below w.heap.size w w1 from Below.trans (by (repeat (first | with_reducible exact Below.refl _ _ | with_reducible exact hbw | (with_reducible refine Below.setCell ?_ ?_ _; rotate_left; · first | exact Nat.le_refl _ | omega | (simp; done) | (simp; omega)) | (with_reducible refine Below.alloc ?_ ?_ _; rotate_left; · first | exact Nat.le_refl _ | omega | (simp; done) | (simp; omega)) | with_reducible refine below_drewN ?_ _ | with_reducible refine Below.drew ?_))) (hb.mono (by simp <;> omega)))
    have hz : w.heap.size + 3 ≤ w1.heap.size := by have := hb.size; simp at this; omega
    have z0 : w1.cell? ⟨w.heap.size, 0, none⟩ = some (.string x.name) := cellB hb (by simp [go_sem])
    have z1 : w1.cell? ⟨w.heap.size, 1, none⟩ = some (.slice a x.tones.length ca) := cellB hb (by simp [go_sem])
    have u0 : w1.cell? ⟨w.heap.size + 1, 0, none⟩ = some (.string y.name) := cellB hb (by simp [go_sem])
    have u1 : w1.cell? ⟨w.heap.size + 1, 1, none⟩ = some (.slice c y.tones.length cc) := cellB hb (by simp [go_sem])
    have r0 : w1.cell? ⟨w.heap.size + 2, 0, none⟩ = some (.string ⟨#[]⟩) := cellB hb (by simp [go_sem])
    have r1 : w1.cell? ⟨w.heap.size + 2, 1, none⟩ = some (.slice none 0 0) := cellB hb (by simp [go_sem])
    have f0 : w1.frozen? ⟨w.heap.size + 2, 0, none⟩ = false := frozenL hb (by simp) (by simp [go_sem])
    have f1 : w1.frozen? ⟨w.heap.size + 2, 1, none⟩ = false := frozenL hb (by simp) (by simp [go_sem])
    have hz0 : w.heap.size < w1.heap.size := by omega
    have hz1 : w.heap.size + 1 < w1.heap.size := by omega
    have hz2 : w.heap.size + 2 < w1.heap.size := by omega
    clear hb
    rw [GX.out]
    go_wp2_with fail
    refine (implValidTun_any _ (.slice c y.tones.length cc) y _ ⟨rfl, hlw.mono (HB.out)⟩ hn2).mono ?_
    rintro e w2 ⟨rfl, hb⟩
    have hzb := hb.size
    have z0 := cellB hb z0
    have z1 := cellB hb z1
    have u0 := cellB hb u0
    have u1 := cellB hb u1
    have r0 := cellB hb r0
    have r1 := cellB hb r1
    have f0 := frozenL hb (by simp; omega) f0
    have f1 := frozenL hb (by simp; omega) f1
    have HB := Lib.hid (HB.out.trans (hb.mono HB.out.size))
    have hz : w.heap.size + 3 ≤ w2.heap.size := by omega
    have hz0 : w.heap.size < w2.heap.size := by omega
    have hz1 : w.heap.size + 1 < w2.heap.size := by omega
    have hz2 : w.heap.size + 2 < w2.heap.size := by omega
    clear hb hzb
    rw [GY.out]
    go_wp2_with fail
    refine (within_any false _ _ _ _ (noB GG.out)).mono ?_
    rintro e w3 ⟨rfl, rfl⟩
    go_wp2
    refine bodyPost_ret (v := .tuple #[.agg #[.string ⟨#[]⟩, .slice none 0 0], .int .i64 2]) (by simp [results, Try.results40, go_sem, hz2, r0, r1]) rfl ⟨_, by rw [E2.out], by rw [E1.out]; exact ownT_zero _ _ _, ?_⟩
    have hbw := HB.out
    (repeat (first | with_reducible exact Below.refl _ _ | with_reducible exact hbw | (with_reducible refine Below.setCell ?_ ?_ _; rotate_left; · first | exact Nat.le_refl _ | omega | (simp; done) | (simp; omega)) | (with_reducible refine Below.alloc ?_ ?_ _; rotate_left; · first | exact Nat.le_refl _ | omega | (simp; done) | (simp; omega)) | with_reducible refine below_drewN ?_ _ | with_reducible refine Below.drew ?_))
  obtain ⟨e1, e2⟩ := ap_yes gx gy gg
  have E1 := Lib.hid e1; have E2 := Lib.hid e2; have GX := Lib.hid gx; have GY := Lib.hid gy; have GG := Lib.hid gg; have TX := Lib.hid (validTunB_iff.1 gx).tones; clear e1 e2 gx gy gg
  go_enter Try.func40, Try.ntmps40
  go_wp2_with fail
  refine (implValidTun_any _ (.slice a x.tones.length ca) x _ ⟨rfl, hlv.mono (by (repeat (first | with_reducible exact Below.refl _ _ | with_reducible exact hbw | (with_reducible refine Below.setCell ?_ ?_ _; rotate_left; · first | exact Nat.le_refl _ | omega | (simp; done) | (simp; omega)) | (with_reducible refine Below.alloc ?_ ?_ _; rotate_left; · first | exact Nat.le_refl _ | omega | (simp; done) | (simp; omega)) | with_reducible refine below_drewN ?_ _ | with_reducible refine Below.drew ?_)))⟩ hn).mono ?_
  rintro e w1 ⟨rfl, hb⟩
  have HB := Lib.hid (show Below w.heap.size w w1 from Below.trans (by (repeat (first | with_reducible exact Below.refl _ _ | with_reducible exact hbw | (with_reducible refine Below.setCell ?_ ?_ _; rotate_left; · first | exact Nat.le_refl _ | omega | (simp; done) | (simp; omega)) | (with_reducible refine Below.alloc ?_ ?_ _; rotate_left; · first | exact Nat.le_refl _ | omega | (simp; done) | (simp; omega)) | with_reducible refine below_drewN ?_ _ | with_reducible refine Below.drew ?_))) (hb.mono (by simp <;> omega)))
  have hz : w.heap.size + 3 ≤ w1.heap.size := by have := hb.size; simp at this; omega
  have z0 : w1.cell? ⟨w.heap.size, 0, none⟩ = some (.string x.name) := cellB hb (by simp [go_sem])
  have z1 : w1.cell? ⟨w.heap.size, 1, none⟩ = some (.slice a x.tones.length ca) := cellB hb (by simp [go_sem])
  have u0 : w1.cell? ⟨w.heap.size + 1, 0, none⟩ = some (.string y.name) := cellB hb (by simp [go_sem])
  have u1 : w1.cell? ⟨w.heap.size + 1, 1, none⟩ = some (.slice c y.tones.length cc) := cellB hb (by simp [go_sem])
  have r0 : w1.cell? ⟨w.heap.size + 2, 0, none⟩ = some (.string ⟨#[]⟩) := cellB hb (by simp [go_sem])
  have r1 : w1.cell? ⟨w.heap.size + 2, 1, none⟩ = some (.slice none 0 0) := cellB hb (by simp [go_sem])
  have f0 : w1.frozen? ⟨w.heap.size + 2, 0, none⟩ = false := frozenL hb (by simp) (by simp [go_sem])
  have f1 : w1.frozen? ⟨w.heap.size + 2, 1, none⟩ = false := frozenL hb (by simp) (by simp [go_sem])
  have hz0 : w.heap.size < w1.heap.size := by omega
  have hz1 : w.heap.size + 1 < w1.heap.size := by omega
  have hz2 : w.heap.size + 2 < w1.heap.size := by omega
  clear hb
  rw [GX.out]
  go_wp2_with fail
  refine (implValidTun_any _ (.slice c y.tones.length cc) y _ ⟨rfl, hlw.mono (HB.out)⟩ hn2).mono ?_
  rintro e w2 ⟨rfl, hb⟩
  have hzb := hb.size
  have z0 := cellB hb z0
  have z1 := cellB hb z1
  have u0 := cellB hb u0
  have u1 := cellB hb u1
  have r0 := cellB hb r0
  have r1 := cellB hb r1
  have f0 := frozenL hb (by simp; omega) f0
  have f1 := frozenL hb (by simp; omega) f1
  have HB := Lib.hid (HB.out.trans (hb.mono HB.out.size))
  have hz : w.heap.size + 3 ≤ w2.heap.size := by omega
  have hz0 : w.heap.size < w2.heap.size := by omega
  have hz1 : w.heap.size + 1 < w2.heap.size := by omega
  have hz2 : w.heap.size + 2 < w2.heap.size := by omega
  clear hb hzb
  rw [GY.out]
  go_wp2_with fail
  refine (within_any true _ _ _ _ (yesB GG.out)).mono ?_
  rintro e w3 ⟨rfl, rfl⟩
  have n0 : ∀ o x, (ext w3.drew (some (w.heap.size + 2)) x).cell? ⟨w.heap.size, o, none⟩ = w3.drew.cell? ⟨w.heap.size, o, none⟩ := fun o x => cell?_ext hz0 (by simp)
  have n1 : ∀ o x, (ext w3.drew (some (w.heap.size + 2)) x).cell? ⟨w.heap.size + 1, o, none⟩ = w3.drew.cell? ⟨w.heap.size + 1, o, none⟩ := fun o x => cell?_ext hz1 (by simp)
  obtain ⟨en, hen⟩ : ∃ en, en = endOf x.tones := ⟨_, rfl⟩
  have hen2 : 0 ≤ en ∧ en ≤ 20000 := by rw [hen]; exact endOf_bd TX.out
  obtain ⟨en0, en1⟩ := hen2
  have hg2 : 0 ≤ en + g ∧ en + g ≤ 100000 := by have := GG.out; unfold gapIn at this; omega
  have q1 : IntKind.i64.wrap (en + g) = en + g := IntWalk.i64_in _ (by omega)
  have EN := Lib.hid hen
  have HG := Lib.hid hg2
  clear hen hg2
  go_wp2_with fail
  refine wp_region_ordG [(0, 1), (1, 1), (2, 1), (4, 1), (3, 0), (5, 1), (6, 0), (7, 1), (8, 1), (9, 0), (10, 1)] [3, 6, 9] (some (w.heap.size + 2)) (by kernel_rfl) (by kernel_rfl) ?_
  (repeat ((first | with_reducible refine wpOrdG_soft (fun K hK => ?_) | with_reducible refine wpOrdG_pre (fun K hK => ?_)); simp only [List.getElem?_toArray, List.getElem?_cons_zero, List.getElem?_cons_succ]; first | (go_simp; refine hK _ ?_) | (simp only [undef]; go_simp; refine hK _ ?_); clear hK K))
  (with_reducible refine wpOrdG_hard ?_; simp only [List.getElem?_toArray, List.getElem?_cons_zero, List.getElem?_cons_succ])
  go_wp2_with fail
  refine (tuneEnd_any _ (.slice a x.tones.length ca) x _ ⟨rfl, hlv.mono (by have hbw := HB.out; (repeat (first | with_reducible exact Below.refl _ _ | with_reducible exact hbw | (with_reducible refine Below.setCell ?_ ?_ _; rotate_left; · first | exact Nat.le_refl _ | omega | (simp; done) | (simp; omega)) | (with_reducible refine Below.alloc ?_ ?_ _; rotate_left; · first | exact Nat.le_refl _ | omega | (simp; done) | (simp; omega)) | with_reducible refine below_drewN ?_ _ | with_reducible refine Below.drew ?_)))⟩ TX.out).mono ?_
  rintro e w4 ⟨rfl, hb4⟩
  rw [← EN.out]
  go_wp2_with fail
  have hb4' := undrew hb4
  refine And.intro (grown_rowD hb4) ?_
  (repeat ((first | with_reducible refine wpOrdG_soft (fun K hK => ?_) | with_reducible refine wpOrdG_pre (fun K hK => ?_)); simp only [List.getElem?_toArray, List.getElem?_cons_zero, List.getElem?_cons_succ]; first | (go_simp; refine hK _ ?_) | (simp only [undef]; go_simp; refine hK _ ?_); clear hK K))
  (with_reducible refine wpOrdG_hard ?_; simp only [List.getElem?_toArray, List.getElem?_cons_zero, List.getElem?_cons_succ])
  go_wp2_with fail
  have hbw4 := HB.out.trans (hb4'.mono HB.out.size)
  refine (joined_any _ (.slice a x.tones.length ca) _ (.slice c y.tones.length cc) x y (en + g) _ ⟨rfl, hlv.mono hbw4⟩ ⟨rfl, hlw.mono hbw4⟩ hn GX.out GY.out HG.out.1 HG.out.2).mono ?_
  rintro e w5 ⟨v5, rfl, ho5, hb5⟩
  obtain ⟨c5, cap5, rfl⟩ := ho5.form
  have hz4 := hb4'.size
  have hz5 := hb5.size
  have hb35 := hb4'.trans (hb5.mono hz4)
  have r0 := cellB hb35 r0
  have r1 := cellB hb35 r1
  have f0 := frozenL hb35 (by simp; omega) f0
  have f1 := frozenL hb35 (by simp; omega) f1
  have hz6 : w.heap.size + 2 < w5.heap.size := by omega
  have hzw : w.heap.size ≤ w4.heap.size := by omega
  have hz7 : w.heap.size + 3 ≤ w4.heap.size := by omega
  have G5 := Lib.hid (grown_rowD (row := some (w.heap.size + 2)) (show Below w3.heap.size w3.drew w5 from hb4.trans (hb5.mono (by have := hb4.size; simpa using this))))
  have HB5 := Lib.hid (HB.out.trans (hb35.mono HB.out.size))
  have HO5 := Lib.hid ho5
  clear hb4 hb4' hb5 hb35 ho5 hbw4
  go_wp2_with fail
  refine And.intro G5.out ?_
  (repeat ((first | with_reducible refine wpOrdG_soft (fun K hK => ?_) | with_reducible refine wpOrdG_pre (fun K hK => ?_)); simp only [List.getElem?_toArray, List.getElem?_cons_zero, List.getElem?_cons_succ]; first | (go_simp; refine hK _ ?_) | (simp only [undef]; go_simp; refine hK _ ?_); clear hK K))
  (with_reducible refine wpOrdG_hard ?_; simp only [List.getElem?_toArray, List.getElem?_cons_zero, List.getElem?_cons_succ])
  go_wp2_with fail
  refine And.intro (grown_setD (grown_setD G5.out _ _) _ _) ?_
  (repeat ((first | with_reducible refine wpOrdG_soft (fun K hK => ?_) | with_reducible refine wpOrdG_pre (fun K hK => ?_)); simp only [List.getElem?_toArray, List.getElem?_cons_zero, List.getElem?_cons_succ]; first | (go_simp; refine hK _ ?_) | (simp only [undef]; go_simp; refine hK _ ?_); clear hK K))
  (with_reducible refine wpOrdG_nil ?_); refine NoPanic.normal ?_
  go_wp2
  refine bodyPost_ret (v := .tuple #[.agg #[.string (joV x y (en + g)).name, .slice c5 (joV x y (en + g)).tones.length cap5], .int .i64 (joC x y (en + g))]) (by simp [results, Try.results40, go_sem, hz6, r0, r1]) rfl ⟨_, by rw [E2.out, EN.out], ?_, ?_⟩
  · rw [E1.out, ← EN.out]
    refine (HO5.out.touch (B' := w.heap.size + 2) (E' := w.heap.size + 3) ?_ (Or.inr (by omega))).wide (by omega) (by simp)
    have htc := Touch.refl (w.heap.size + 2) (w.heap.size + 3) w5
    (repeat (first | with_reducible exact Touch.refl _ _ _ | with_reducible exact htc | (with_reducible refine Touch.setCell ?_ ?_ _; rotate_left; · (simp only; omega)) | (with_reducible refine Touch.setNew ?_ ?_ _; rotate_left; · (first | (simp only; omega) | (simp; done) | (simp; omega))) | with_reducible refine Touch.alloc ?_ _ | with_reducible refine Touch.drewN ?_ _ | with_reducible refine Touch.drew ?_))
  · have hbw := HB5.out
    (repeat (first | with_reducible exact Below.refl _ _ | with_reducible exact hbw | (with_reducible refine Below.setCell ?_ ?_ _; rotate_left; · first | exact Nat.le_refl _ | omega | (simp; done) | (simp; omega)) | (with_reducible refine Below.alloc ?_ ?_ _; rotate_left; · first | exact Nat.le_refl _ | omega | (simp; done) | (simp; omega)) | with_reducible refine below_drewN ?_ _ | with_reducible refine Below.drew ?_))

end Go.Proofs.Ytfnbjegbaobpnaa
