import Derived.Test.YtgdfecnpkjnhnaaGreatDoorFtZ8
/- Contract of impl.joined. -/
set_option linter.unusedSimpArgs false
set_option linter.unnecessarySimpa false
set_option linter.unusedVariables false
set_option maxRecDepth 100000
namespace Go.Proofs.YtgdfecnpkjnhnaaGreatDoor
open Go.RowKit

def shF (b : Int) (x : Ton) : Ton := ⟨x.note, x.start + b, x.len⟩
def joL (x y : TunD) (b : Int) : List Ton := x.tones ++ y.tones.map (shF b)
def joFits (x y : TunD) : Prop := x.tones.length + y.tones.length ≤ 128
instance (x y : TunD) : Decidable (joFits x y) := by unfold joFits; infer_instance
noncomputable def joV (x y : TunD) (b : Int) : TunD := if joFits x y then toV x.name (joL x y b) else ⟨.empty, []⟩
noncomputable def joC (x y : TunD) (b : Int) : Int := if joFits x y then toC x.name (joL x y b) else 5
theorem jo_yes {x y : TunD} {b : Int} (h : joFits x y) : joV x y b = toV x.name (joL x y b) ∧ joC x y b = toC x.name (joL x y b) := by unfold joV joC; rw [if_pos h, if_pos h]; exact ⟨rfl, rfl⟩
theorem jo_no {x y : TunD} {b : Int} (h : ¬ joFits x y) : joV x y b = ⟨.empty, []⟩ ∧ joC x y b = 5 := by unfold joV joC; rw [if_neg h, if_neg h]; exact ⟨rfl, rfl⟩
theorem jo_snoc (xs ys : List Ton) (F : Ton → Ton) (k : Nat) (hk : k < ys.length) : (xs ++ (ys.map F).take (k + 1)).flatMap Ton.cells = (xs ++ (ys.map F).take k).flatMap Ton.cells ++ [.int .i64 (F ys[k]).note, .int .i64 (F ys[k]).start, .int .i64 (F ys[k]).len] := by
  rw [List.flatMap_append, map_snoc ys F k hk, List.flatMap_append, List.append_assoc]

set_option maxHeartbeats 2000000 in
theorem joined_any (va la vb lb : Value) (x y : TunD) (b : Int) (w : World) (hx : Tun w va la x) (hy : Tun w vb lb y) (nx : x.name.size ≤ maxLen) (gx : validTunB x = true) (gy : validTunB y = true) (h0 : 0 ≤ b) (h1 : b ≤ 100000) :
    Calls Tryz.prog 32 #[va, vb, .int .i64 b] w fun e w' => ∃ v', e = .returned (.tuple #[v', .int .i64 (joC x y b)]) ∧ OwnTun w.heap.size w'.heap.size w' v' (joV x y b) ∧ Below w.heap.size w w' := by
  obtain ⟨rfl, hla⟩ := hx
  obtain ⟨rfl, hlb⟩ := hy
  obtain ⟨a, ca, rfl, _⟩ := id hla
  obtain ⟨c, cc, rfl, _⟩ := id hlb
  have lx := tun_len gx
  have ly := tun_len gy
  have s1 : IntKind.i64.wrap ((x.tones.length : Int) + y.tones.length) = (x.tones.length : Int) + y.tones.length := IntWalk.i64_in _ (by omega)
  by_cases gf : joFits x y
  · obtain ⟨e1, e2⟩ := jo_yes (b := b) gf
    have d0 : decide (128 < (x.tones.length : Int) + y.tones.length) = false := by unfold joFits at gf; simp; omega
    have E1 := Lib.hid e1; have E2 := Lib.hid e2; have GF := Lib.hid gf; have GX := Lib.hid gx; have GY := Lib.hid gy; clear e1 e2 gf gx gy
    go_enter Tryz.func32, Tryz.ntmps32
    go_wp2_with fail
    refine (cloneTon_any _ x.tones _ (hla.mono (by (repeat (first | with_reducible exact Below.refl _ _ | with_reducible exact hbw | (with_reducible refine Below.setCell ?_ ?_ _; rotate_left; · first | exact Nat.le_refl _ | omega | (simp; done) | (simp; omega)) | (with_reducible refine Below.alloc ?_ ?_ _; rotate_left; · first | exact Nat.le_refl _ | omega | (simp; done) | (simp; omega)) | with_reducible refine below_drewN ?_ _ | with_reducible refine Below.drew ?_)))) (by omega)).mono ?_
    rintro e w1 ⟨v1, rfl, ho1, hb1⟩
    obtain ⟨a1, c1, rfl⟩ := ho1.form
    have hz1 : w.heap.size + 3 ≤ w1.heap.size := by have := hb1.size; simp at this; omega
    have hbw1 : Below w.heap.size w w1 := Below.trans (by (repeat (first | with_reducible exact Below.refl _ _ | with_reducible exact hbw | (with_reducible refine Below.setCell ?_ ?_ _; rotate_left; · first | exact Nat.le_refl _ | omega | (simp; done) | (simp; omega)) | (with_reducible refine Below.alloc ?_ ?_ _; rotate_left; · first | exact Nat.le_refl _ | omega | (simp; done) | (simp; omega)) | with_reducible refine below_drewN ?_ _ | with_reducible refine Below.drew ?_))) (hb1.mono (by simp <;> omega))
    have y0 : w1.cell? ⟨w.heap.size, 0, none⟩ = some (.string x.name) := cellB hb1 (by simp [go_sem])
    have y1 : w1.cell? ⟨w.heap.size + 1, 0, none⟩ = some (.string y.name) := cellB hb1 (by simp [go_sem])
    have y2 : w1.cell? ⟨w.heap.size + 1, 1, none⟩ = some (.slice c y.tones.length cc) := cellB hb1 (by simp [go_sem])
    have r0 : w1.cell? ⟨w.heap.size + 2, 0, none⟩ = some (.string ⟨#[]⟩) := cellB hb1 (by simp [go_sem])
    have r1 : w1.cell? ⟨w.heap.size + 2, 1, none⟩ = some (.slice none 0 0) := cellB hb1 (by simp [go_sem])
    have f0 : w1.frozen? ⟨w.heap.size + 2, 0, none⟩ = false := frozenL hb1 (by simp) (by simp [go_sem])
    have f1 : w1.frozen? ⟨w.heap.size + 2, 1, none⟩ = false := frozenL hb1 (by simp) (by simp [go_sem])
    have ho1' : w1.ownsRow (w.heap.size + 3) 50 3 (.slice a1 x.tones.length c1) x.tones.length (x.tones.flatMap Ton.cells) := owns_base ho1.1 (by simp)
    have HO1 := Lib.hid ho1'; have HB1 := Lib.hid hbw1
    clear hb1 ho1 ho1' hbw1
    go_wp2_with fail
    go_loopw [8, 26, 10] (fun tv i _ wr => ∃ (k : Nat) (a' : Option Addr) (cap' : Nat), k ≤ y.tones.length ∧ i = .int .i64 (k : Int) ∧ tv = .slice a' (x.tones.length + k) cap' ∧ wr.ownsRow (w.heap.size + 3) 50 3 (.slice a' (x.tones.length + k) cap') (x.tones.length + k) ((x.tones ++ (y.tones.map (shF b)).take k).flatMap Ton.cells) ∧ Below w.heap.size w wr ∧ w.heap.size + 3 ≤ wr.heap.size ∧ wr.cell? ⟨w.heap.size, 0, none⟩ = some (.string x.name) ∧ wr.cell? ⟨w.heap.size + 2, 0, none⟩ = some (.string ⟨#[]⟩) ∧ wr.cell? ⟨w.heap.size + 2, 1, none⟩ = some (.slice none 0 0) ∧ wr.frozen? ⟨w.heap.size + 2, 0, none⟩ = false ∧ wr.frozen? ⟨w.heap.size + 2, 1, none⟩ = false) (fun tv i _ _ => y.tones.length - (intOf i).toNat)
    case atStart => exact ⟨0, a1, c1, Nat.zero_le _, by go_num, rfl, by simpa using HO1.out, HB1.out, hz1, y0, r0, r1, f0, f1⟩
    case round =>
      clear y0 y1 y2 r0 r1 f0 f1
      obtain ⟨k, a', cap', hk, rfl, rfl, ho, hb, hz, y0, r0, r1, f0, f1⟩ := hrel
      have HO := Lib.hid ho; clear ho
      by_cases hlt : k < y.tones.length
      · obtain ⟨b1, o1, rfl, hB1, c0, c1', c2⟩ := (hlb.mono hb).at hlt
        have l1 : b1 < wr.heap.size + 1 := by omega
        have ft := (tun_tone GY.out hlt).fits
        have q1 : IntKind.i64.wrap (y.tones[k].start + b) = y.tones[k].start + b := IntWalk.i64_in _ (by omega)
        have HB := Lib.hid hb
        clear ft hb
        go_wp2_with (at_builtin; refine append_one_at rfl _ _ 24 rfl (w.heap.size + 3) 50 _ 3 24 Tryz.underlying24 info_Tone rfl (by decide) _ (x.tones.length + k) _ rfl (owns_mono HO.out (by (repeat (first | with_reducible exact Below.refl _ _ | with_reducible exact hbw | (with_reducible refine Below.setCell ?_ ?_ _; rotate_left; · first | exact Nat.le_refl _ | omega | (simp; done) | (simp; omega)) | (with_reducible refine Below.alloc ?_ ?_ _; rotate_left; · first | exact Nat.le_refl _ | omega | (simp; done) | (simp; omega)) | with_reducible refine below_drewN ?_ _ | with_reducible refine Below.drew ?_)))) [.int .i64 (shF b y.tones[k]).note, .int .i64 (shF b y.tones[k]).start, .int .i64 (shF b y.tones[k]).len] rfl (by intro u hu; simp at hu; rcases hu with rfl | rfl | rfl <;> rfl) (wr.heap.size + 1) (by simp) rfl (by omega) (by decide) (by simp; omega) ?_)
        intro a5 cap5 w5 ho5 hg5 hb5 hat5
        have hst : Below (w.heap.size + 3) wr w5 := Below.trans (Below.mono (B := wr.heap.size) (by (repeat (first | with_reducible exact Below.refl _ _ | with_reducible exact hbw | (with_reducible refine Below.setCell ?_ ?_ _; rotate_left; · first | exact Nat.le_refl _ | omega | (simp; done) | (simp; omega)) | (with_reducible refine Below.alloc ?_ ?_ _; rotate_left; · first | exact Nat.le_refl _ | omega | (simp; done) | (simp; omega)) | with_reducible refine below_drewN ?_ _ | with_reducible refine Below.drew ?_))) hz) hb5
        have hz5 := hst.size
        have y0 := cellL hst (by simp) y0
        have r0 := cellL hst (by simp) r0
        have r1 := cellL hst (by simp) r1
        have f0 := frozenL hst (by simp) f0
        have f1 := frozenL hst (by simp) f1
        have HB5 := Lib.hid (HB.out.trans (hst.mono (by omega)))
        have HO5 := Lib.hid ho5
        clear hst hb5 ho5 hg5 hat5
        go_wp2
        go_roundw
        case rel => exact ⟨k + 1, a5, cap5, by omega, by go_num, rfl, by rw [List.flatMap_append, map_snoc _ (shF b) k hlt]; exact HO5.out, HB5.out, by omega, y0, r0, r1, f0, f1⟩
        case measure => simp [intOf] <;> omega
      · obtain rfl : k = y.tones.length := by omega
        have e0 : (y.tones.map (shF b)).take y.tones.length = y.tones.map (shF b) := List.take_of_length_le (by simp)
        have ho := HO.out
        rw [e0] at ho
        have HO2 := Lib.hid ho; have HB := Lib.hid hb; clear ho e0 hb
        go_wp2_with fail
        refine (tuneOf_any (w.heap.size + 3) (x.tones.length + y.tones.length) x.name _ (joL x y b) _ (OwnRow.mk' HO2.out) (by unfold joL; simp) (by omega) nx hz).mono ?_
        rintro e w1' ⟨v1, rfl, ho1, ht⟩
        obtain ⟨c1', cap1, rfl⟩ := ho1.form
        have hz1 := ht.size
        have r0 := cellT ht r0 (Or.inl (by simp))
        have r1 := cellT ht r1 (Or.inl (by simp))
        have f0 := touch_frozen ht (by simp; omega) (Or.inl (by simp)) f0
        have f1 := touch_frozen ht (by simp; omega) (Or.inl (by simp)) f1
        have hb1 : Below w.heap.size w w1' := ht.below (b := w.heap.size) HB.out (by omega) HB.out.size
        have HO1 := Lib.hid ho1; have HB1 := Lib.hid hb1
        have hz3 : w.heap.size + 2 < w1'.heap.size := by omega
        clear ho1 ht hb1
        go_wp2
        refine bodyPost_ret (v := .tuple #[.agg #[.string (toV x.name (joL x y b)).name, .slice c1' (toV x.name (joL x y b)).tones.length cap1], .int .i64 (toC x.name (joL x y b))]) (by simp [results, Tryz.results32, go_sem, hz3, r0, r1]) rfl ⟨_, by rw [E2.out], ?_, ?_⟩
        · rw [E1.out]
          refine (HO1.out.touch (B' := w.heap.size + 2) (E' := w.heap.size + 3) ?_ (Or.inr (Nat.le_refl _))).wide (by omega) (by simp)
          have htc := Touch.refl (w.heap.size + 2) (w.heap.size + 3) w1'
          (repeat (first | with_reducible exact Touch.refl _ _ _ | with_reducible exact htc | (with_reducible refine Touch.setCell ?_ ?_ _; rotate_left; · (simp only; omega)) | (with_reducible refine Touch.setNew ?_ ?_ _; rotate_left; · (first | (simp only; omega) | (simp; done) | (simp; omega))) | with_reducible refine Touch.alloc ?_ _ | with_reducible refine Touch.drewN ?_ _ | with_reducible refine Touch.drew ?_))
        · have hbw := HB1.out
          (repeat (first | with_reducible exact Below.refl _ _ | with_reducible exact hbw | (with_reducible refine Below.setCell ?_ ?_ _; rotate_left; · first | exact Nat.le_refl _ | omega | (simp; done) | (simp; omega)) | (with_reducible refine Below.alloc ?_ ?_ _; rotate_left; · first | exact Nat.le_refl _ | omega | (simp; done) | (simp; omega)) | with_reducible refine below_drewN ?_ _ | with_reducible refine Below.drew ?_))
  · obtain ⟨e1, e2⟩ := jo_no (b := b) gf
    have d0 : decide (128 < (x.tones.length : Int) + y.tones.length) = true := by unfold joFits at gf; simp; omega
    have E1 := Lib.hid e1; have E2 := Lib.hid e2; clear e1 e2 gf
    go_enter Tryz.func32, Tryz.ntmps32
    go_wp2
    refine bodyPost_ret (v := .tuple #[.agg #[.string ⟨#[]⟩, .slice none 0 0], .int .i64 5]) (by simp [results, Tryz.results32, go_sem]) rfl ⟨_, by rw [E2.out], by rw [E1.out]; exact ownT_zero _ _ _, ?_⟩
    (repeat (first | with_reducible exact Below.refl _ _ | with_reducible exact hbw | (with_reducible refine Below.setCell ?_ ?_ _; rotate_left; · first | exact Nat.le_refl _ | omega | (simp; done) | (simp; omega)) | (with_reducible refine Below.alloc ?_ ?_ _; rotate_left; · first | exact Nat.le_refl _ | omega | (simp; done) | (simp; omega)) | with_reducible refine below_drewN ?_ _ | with_reducible refine Below.drew ?_))

end Go.Proofs.YtgdfecnpkjnhnaaGreatDoor
/- Contract of impl.AppendTune. -/
set_option linter.unusedSimpArgs false
set_option linter.unnecessarySimpa false
set_option linter.unusedVariables false
set_option maxRecDepth 100000
namespace Go.Proofs.YtgdfecnpkjnhnaaGreatDoor
open Go.RowKit

def gapIn (g : Int) : Prop := 0 ≤ g ∧ g ≤ 20000
instance (g : Int) : Decidable (gapIn g) := by unfold gapIn; infer_instance
noncomputable def apV (x y : TunD) (g : Int) : TunD := if validTunB x = true then if validTunB y = true then if gapIn g then joV x y (endOf x.tones + g) else ⟨.empty, []⟩ else ⟨.empty, []⟩ else ⟨.empty, []⟩
noncomputable def apC (x y : TunD) (g : Int) : Int := if validTunB x = true then if validTunB y = true then if gapIn g then joC x y (endOf x.tones + g) else 2 else 1 else 1
theorem ap_yes {x y : TunD} {g : Int} (h : validTunB x = true) (h2 : validTunB y = true) (h3 : gapIn g) : apV x y g = joV x y (endOf x.tones + g) ∧ apC x y g = joC x y (endOf x.tones + g) := by unfold apV apC; rw [if_pos h, if_pos h, if_pos h2, if_pos h2, if_pos h3, if_pos h3]; exact ⟨rfl, rfl⟩
theorem ap_rng {x y : TunD} {g : Int} (h : validTunB x = true) (h2 : validTunB y = true) (h3 : ¬ gapIn g) : apV x y g = ⟨.empty, []⟩ ∧ apC x y g = 2 := by unfold apV apC; rw [if_pos h, if_pos h, if_pos h2, if_pos h2, if_neg h3, if_neg h3]; exact ⟨rfl, rfl⟩
theorem ap_y {x y : TunD} {g : Int} (h : validTunB x = true) (h2 : ¬ validTunB y = true) : apV x y g = ⟨.empty, []⟩ ∧ apC x y g = 1 := by unfold apV apC; rw [if_pos h, if_pos h, if_neg h2, if_neg h2]; exact ⟨rfl, rfl⟩
theorem ap_x {x y : TunD} {g : Int} (h : ¬ validTunB x = true) : apV x y g = ⟨.empty, []⟩ ∧ apC x y g = 1 := by unfold apV apC; rw [if_neg h, if_neg h]; exact ⟨rfl, rfl⟩

set_option maxHeartbeats 2000000 in
theorem implAppendTune_any (v : Value) (x : TunD) (v2 : Value) (y : TunD) (g : Int) (w : World) (h : RdTun w v x) (ok : x.ok) (hs : x.tones.length ≤ 1048576) (h2 : RdTun w v2 y) (ok2 : y.ok) (hs2 : y.tones.length ≤ 1048576) (_ : I64 g) :
    Calls Tryz.prog 11 #[v, v2, .int .i64 g] w fun e w' => ∃ v', e = .returned (.tuple #[v', .int .i64 (apC x y g)]) ∧ OwnTun w.heap.size w'.heap.size w' v' (apV x y g) ∧ Below w.heap.size w w' := by
  obtain ⟨lv, rfl, hlv⟩ := h
  obtain ⟨lw, rfl, hlw⟩ := h2
  obtain ⟨a, ca, rfl, hca, hcm, _⟩ := id hlv
  obtain ⟨c, cc, rfl, hcc, hcm2, _⟩ := id hlw
  have hn := ok.1
  have hn2 := ok2.1
  by_cases gx : validTunB x = true
  rotate_left
  · obtain ⟨e1, e2⟩ := ap_x (y := y) (g := g) gx
    have E1 := Lib.hid e1; have E2 := Lib.hid e2; have G := Lib.hid (show validTunB x = false by simpa using gx); clear e1 e2 gx
    go_enter Tryz.func11, Tryz.ntmps11
    go_wp2_with fail
    refine (implValidTun_any _ (.slice a x.tones.length ca) x _ ⟨rfl, hlv.mono (by (repeat (first | with_reducible exact Below.refl _ _ | with_reducible exact hbw | (with_reducible refine Below.setCell ?_ ?_ _; rotate_left; · first | exact Nat.le_refl _ | omega | (simp; done) | (simp; omega)) | (with_reducible refine Below.alloc ?_ ?_ _; rotate_left; · first | exact Nat.le_refl _ | omega | (simp; done) | (simp; omega)) | with_reducible refine below_drewN ?_ _ | with_reducible refine Below.drew ?_)))⟩ hn).mono ?_
    rintro e w1 ⟨rfl, hb⟩
    have HB := Lib.hid (show Below w.heap.size w w1 from Below.trans (by (repeat (first | with_reducible exact Below.refl _ _ | with_reducible exact hbw | (with_reducible refine Below.setCell ?_ ?_ _; rotate_left; · first | exact Nat.le_refl _ | omega | (simp; done) | (simp; omega)) | (with_reducible refine Below.alloc ?_ ?_ _; rotate_left; · first | exact Nat.le_refl _ | omega | (simp; done) | (simp; omega)) | with_reducible refine below_drewN ?_ _ | with_reducible refine Below.drew ?_))) (hb.mono (by simp <;> omega)))
    have hz : w.heap.size + 3 ≤ w1.heap.size := by have := hb.size; simp at this; omega
    have z0 : w1.cell? ⟨w.heap.size, 0, none⟩ = some (.string x.name) := cellB hb (by simp [go_sem])
    have z1 : w1.cell? ⟨w.heap.size, 1, none⟩ = some (.slice a x.tones.length ca) := cellB hb (by simp [go_sem])
    have u0 : w1.cell? ⟨w.heap.size + 1, 0, none⟩ = some (.string y.name) := cellB hb (by simp [go_sem])
    have u1 : w1.cell? ⟨w.heap.size + 1, 1, none⟩ = some (.slice c y.tones.length cc) := cellB hb (by simp [go_sem])
    have r0 : w1.cell? ⟨w.heap.size + 2, 0, none⟩ = some (.string ⟨#[]⟩) := cellB hb (by simp [go_sem])
    have r1 : w1.cell? ⟨w.heap.size + 2, 1, none⟩ = some (.slice none 0 0) := cellB hb (by simp [go_sem])
    have f0 : w1.frozen? ⟨w.heap.size + 2, 0, none⟩ = false := frozenL hb (by simp) (by simp [go_sem])
    have f1 : w1.frozen? ⟨w.heap.size + 2, 1, none⟩ = false := frozenL hb (by simp) (by simp [go_sem])
    have hz0 : w.heap.size < w1.heap.size := by omega
    have hz1 : w.heap.size + 1 < w1.heap.size := by omega
    have hz2 : w.heap.size + 2 < w1.heap.size := by omega
    clear hb
    rw [G.out]
    go_wp2
    refine bodyPost_ret (v := .tuple #[.agg #[.string ⟨#[]⟩, .slice none 0 0], .int .i64 1]) (by simp [results, Tryz.results11, go_sem, hz2, r0, r1]) rfl ⟨_, by rw [E2.out], by rw [E1.out]; exact ownT_zero _ _ _, ?_⟩
    have hbw := HB.out
    (repeat (first | with_reducible exact Below.refl _ _ | with_reducible exact hbw | (with_reducible refine Below.setCell ?_ ?_ _; rotate_left; · first | exact Nat.le_refl _ | omega | (simp; done) | (simp; omega)) | (with_reducible refine Below.alloc ?_ ?_ _; rotate_left; · first | exact Nat.le_refl _ | omega | (simp; done) | (simp; omega)) | with_reducible refine below_drewN ?_ _ | with_reducible refine Below.drew ?_))
  by_cases gy : validTunB y = true
  rotate_left
  · obtain ⟨e1, e2⟩ := ap_y (g := g) gx gy
    have E1 := Lib.hid e1; have E2 := Lib.hid e2; have GX := Lib.hid gx; have GY := Lib.hid (show validTunB y = false by simpa using gy); clear e1 e2 gx gy
    go_enter Tryz.func11, Tryz.ntmps11
    go_wp2_with fail
    refine (implValidTun_any _ (.slice a x.tones.length ca) x _ ⟨rfl, hlv.mono (by (repeat (first | with_reducible exact Below.refl _ _ | with_reducible exact hbw | (with_reducible refine Below.setCell ?_ ?_ _; rotate_left; · first | exact Nat.le_refl _ | omega | (simp; done) | (simp; omega)) | (with_reducible refine Below.alloc ?_ ?_ _; rotate_left; · first | exact Nat.le_refl _ | omega | (simp; done) | (simp; omega)) | with_reducible refine below_drewN ?_ _ | with_reducible refine Below.drew ?_)))⟩ hn).mono ?_
    rintro e w1 ⟨rfl, hb⟩
    have HB := Lib.hid (show Below w.heap.size w w1 from Below.trans (by (repeat (first | with_reducible exact Below.refl _ _ | with_reducible exact hbw | (with_reducible refine Below.setCell ?_ ?_ _; rotate_left; · first | exact Nat.le_refl _ | omega | (simp; done) | (simp; omega)) | (with_reducible refine Below.alloc ?_ ?_ _; rotate_left; · first | exact Nat.le_refl _ | omega | (simp; done) | (simp; omega)) | with_reducible refine below_drewN ?_ _ | with_reducible refine Below.drew ?_))) (hb.mono (by simp <;> omega)))
    have hz : w.heap.size + 3 ≤ w1.heap.size := by have := hb.size; simp at this; omega
    have z0 : w1.cell? ⟨w.heap.size, 0, none⟩ = some (.string x.name) := cellB hb (by simp [go_sem])
    have z1 : w1.cell? ⟨w.heap.size, 1, none⟩ = some (.slice a x.tones.length ca) := cellB hb (by simp [go_sem])
    have u0 : w1.cell? ⟨w.heap.size + 1, 0, none⟩ = some (.string y.name) := cellB hb (by simp [go_sem])
    have u1 : w1.cell? ⟨w.heap.size + 1, 1, none⟩ = some (.slice c y.tones.length cc) := cellB hb (by simp [go_sem])
    have r0 : w1.cell? ⟨w.heap.size + 2, 0, none⟩ = some (.string ⟨#[]⟩) := cellB hb (by simp [go_sem])
    have r1 : w1.cell? ⟨w.heap.size + 2, 1, none⟩ = some (.slice none 0 0) := cellB hb (by simp [go_sem])
    have f0 : w1.frozen? ⟨w.heap.size + 2, 0, none⟩ = false := frozenL hb (by simp) (by simp [go_sem])
    have f1 : w1.frozen? ⟨w.heap.size + 2, 1, none⟩ = false := frozenL hb (by simp) (by simp [go_sem])
    have hz0 : w.heap.size < w1.heap.size := by omega
    have hz1 : w.heap.size + 1 < w1.heap.size := by omega
    have hz2 : w.heap.size + 2 < w1.heap.size := by omega
    clear hb
    rw [GX.out]
    go_wp2_with fail
    refine (implValidTun_any _ (.slice c y.tones.length cc) y _ ⟨rfl, hlw.mono (HB.out)⟩ hn2).mono ?_
    rintro e w2 ⟨rfl, hb⟩
    have hzb := hb.size
    have z0 := cellB hb z0
    have z1 := cellB hb z1
    have u0 := cellB hb u0
    have u1 := cellB hb u1
    have r0 := cellB hb r0
    have r1 := cellB hb r1
    have f0 := frozenL hb (by simp; omega) f0
    have f1 := frozenL hb (by simp; omega) f1
    have HB := Lib.hid (HB.out.trans (hb.mono HB.out.size))
    have hz : w.heap.size + 3 ≤ w2.heap.size := by omega
    have hz0 : w.heap.size < w2.heap.size := by omega
    have hz1 : w.heap.size + 1 < w2.heap.size := by omega
    have hz2 : w.heap.size + 2 < w2.heap.size := by omega
    clear hb hzb
    rw [GY.out]
    go_wp2
    refine bodyPost_ret (v := .tuple #[.agg #[.string ⟨#[]⟩, .slice none 0 0], .int .i64 1]) (by simp [results, Tryz.results11, go_sem, hz2, r0, r1]) rfl ⟨_, by rw [E2.out], by rw [E1.out]; exact ownT_zero _ _ _, ?_⟩
    have hbw := HB.out
    (repeat (first | with_reducible exact Below.refl _ _ | with_reducible exact hbw | (with_reducible refine Below.setCell ?_ ?_ _; rotate_left; · first | exact Nat.le_refl _ | omega | (simp; done) | (simp; omega)) | (with_reducible refine Below.alloc ?_ ?_ _; rotate_left; · first | exact Nat.le_refl _ | omega | (simp; done) | (simp; omega)) | with_reducible refine below_drewN ?_ _ | with_reducible refine Below.drew ?_))
  by_cases gg : gapIn g
  rotate_left
  · obtain ⟨e1, e2⟩ := ap_rng gx gy gg
    have E1 := Lib.hid e1; have E2 := Lib.hid e2; have GX := Lib.hid gx; have GY := Lib.hid gy; have GG := Lib.hid gg; clear e1 e2 gx gy gg
    go_enter Tryz.func11, Tryz.ntmps11
    go_wp2_with fail
    refine (implValidTun_any _ (.slice a x.tones.length ca) x _ ⟨rfl, hlv.mono (by (repeat (first | with_reducible exact Below.refl _ _ | with_reducible exact hbw | (with_reducible refine Below.setCell ?_ ?_ _; rotate_left; · first | exact Nat.le_refl _ | omega | (simp; done) | (simp; omega)) | (with_reducible refine Below.alloc ?_ ?_ _; rotate_left; · first | exact Nat.le_refl _ | omega | (simp; done) | (simp; omega)) | with_reducible refine below_drewN ?_ _ | with_reducible refine Below.drew ?_)))⟩ hn).mono ?_
    rintro e w1 ⟨rfl, hb⟩
    have HB := Lib.hid (show Below w.heap.size w w1 from Below.trans (by (repeat (first | with_reducible exact Below.refl _ _ | with_reducible exact hbw | (with_reducible refine Below.setCell ?_ ?_ _; rotate_left; · first | exact Nat.le_refl _ | omega | (simp; done) | (simp; omega)) | (with_reducible refine Below.alloc ?_ ?_ _; rotate_left; · first | exact Nat.le_refl _ | omega | (simp; done) | (simp; omega)) | with_reducible refine below_drewN ?_ _ | with_reducible refine Below.drew ?_))) (hb.mono (by simp <;> omega)))
    have hz : w.heap.size + 3 ≤ w1.heap.size := by have := hb.size; simp at this; omega
    have z0 : w1.cell? ⟨w.heap.size, 0, none⟩ = some (.string x.name) := cellB hb (by simp [go_sem])
    have z1 : w1.cell? ⟨w.heap.size, 1, none⟩ = some (.slice a x.tones.length ca) := cellB hb (by simp [go_sem])
    have u0 : w1.cell? ⟨w.heap.size + 1, 0, none⟩ = some (.string y.name) := cellB hb (by simp [go_sem])
    have u1 : w1.cell? ⟨w.heap.size + 1, 1, none⟩ = some (.slice c y.tones.length cc) := cellB hb (by simp [go_sem])
    have r0 : w1.cell? ⟨w.heap.size + 2, 0, none⟩ = some (.string ⟨#[]⟩) := cellB hb (by simp [go_sem])
    have r1 : w1.cell? ⟨w.heap.size + 2, 1, none⟩ = some (.slice none 0 0) := cellB hb (by simp [go_sem])
    have f0 : w1.frozen? ⟨w.heap.size + 2, 0, none⟩ = false := frozenL hb (by simp) (by simp [go_sem])
    have f1 : w1.frozen? ⟨w.heap.size + 2, 1, none⟩ = false := frozenL hb (by simp) (by simp [go_sem])
    have hz0 : w.heap.size < w1.heap.size := by omega
    have hz1 : w.heap.size + 1 < w1.heap.size := by omega
    have hz2 : w.heap.size + 2 < w1.heap.size := by omega
    clear hb
    rw [GX.out]
    go_wp2_with fail
    refine (implValidTun_any _ (.slice c y.tones.length cc) y _ ⟨rfl, hlw.mono (HB.out)⟩ hn2).mono ?_
    rintro e w2 ⟨rfl, hb⟩
    have hzb := hb.size
    have z0 := cellB hb z0
    have z1 := cellB hb z1
    have u0 := cellB hb u0
    have u1 := cellB hb u1
    have r0 := cellB hb r0
    have r1 := cellB hb r1
    have f0 := frozenL hb (by simp; omega) f0
    have f1 := frozenL hb (by simp; omega) f1
    have HB := Lib.hid (HB.out.trans (hb.mono HB.out.size))
    have hz : w.heap.size + 3 ≤ w2.heap.size := by omega
    have hz0 : w.heap.size < w2.heap.size := by omega
    have hz1 : w.heap.size + 1 < w2.heap.size := by omega
    have hz2 : w.heap.size + 2 < w2.heap.size := by omega
    clear hb hzb
    rw [GY.out]
    go_wp2_with fail
    refine (within_any false _ _ _ _ (noB GG.out)).mono ?_
    rintro e w3 ⟨rfl, rfl⟩
    go_wp2
    refine bodyPost_ret (v := .tuple #[.agg #[.string ⟨#[]⟩, .slice none 0 0], .int .i64 2]) (by simp [results, Tryz.results11, go_sem, hz2, r0, r1]) rfl ⟨_, by rw [E2.out], by rw [E1.out]; exact ownT_zero _ _ _, ?_⟩
    have hbw := HB.out
    (repeat (first | with_reducible exact Below.refl _ _ | with_reducible exact hbw | (with_reducible refine Below.setCell ?_ ?_ _; rotate_left; · first | exact Nat.le_refl _ | omega | (simp; done) | (simp; omega)) | (with_reducible refine Below.alloc ?_ ?_ _; rotate_left; · first | exact Nat.le_refl _ | omega | (simp; done) | (simp; omega)) | with_reducible refine below_drewN ?_ _ | with_reducible refine Below.drew ?_))
  obtain ⟨e1, e2⟩ := ap_yes gx gy gg
  have E1 := Lib.hid e1; have E2 := Lib.hid e2; have GX := Lib.hid gx; have GY := Lib.hid gy; have GG := Lib.hid gg; have TX := Lib.hid (validTunB_iff.1 gx).tones; clear e1 e2 gx gy gg
  go_enter Tryz.func11, Tryz.ntmps11
  go_wp2_with fail
  refine (implValidTun_any _ (.slice a x.tones.length ca) x _ ⟨rfl, hlv.mono (by (repeat (first | with_reducible exact Below.refl _ _ | with_reducible exact hbw | (with_reducible refine Below.setCell ?_ ?_ _; rotate_left; · first | exact Nat.le_refl _ | omega | (simp; done) | (simp; omega)) | (with_reducible refine Below.alloc ?_ ?_ _; rotate_left; · first | exact Nat.le_refl _ | omega | (simp; done) | (simp; omega)) | with_reducible refine below_drewN ?_ _ | with_reducible refine Below.drew ?_)))⟩ hn).mono ?_
  rintro e w1 ⟨rfl, hb⟩
  have HB := Lib.hid (show Below w.heap.size w w1 from Below.trans (by (repeat (first | with_reducible exact Below.refl _ _ | with_reducible exact hbw | (with_reducible refine Below.setCell ?_ ?_ _; rotate_left; · first | exact Nat.le_refl _ | omega | (simp; done) | (simp; omega)) | (with_reducible refine Below.alloc ?_ ?_ _; rotate_left; · first | exact Nat.le_refl _ | omega | (simp; done) | (simp; omega)) | with_reducible refine below_drewN ?_ _ | with_reducible refine Below.drew ?_))) (hb.mono (by simp <;> omega)))
  have hz : w.heap.size + 3 ≤ w1.heap.size := by have := hb.size; simp at this; omega
  have z0 : w1.cell? ⟨w.heap.size, 0, none⟩ = some (.string x.name) := cellB hb (by simp [go_sem])
  have z1 : w1.cell? ⟨w.heap.size, 1, none⟩ = some (.slice a x.tones.length ca) := cellB hb (by simp [go_sem])
  have u0 : w1.cell? ⟨w.heap.size + 1, 0, none⟩ = some (.string y.name) := cellB hb (by simp [go_sem])
  have u1 : w1.cell? ⟨w.heap.size + 1, 1, none⟩ = some (.slice c y.tones.length cc) := cellB hb (by simp [go_sem])
  have r0 : w1.cell? ⟨w.heap.size + 2, 0, none⟩ = some (.string ⟨#[]⟩) := cellB hb (by simp [go_sem])
  have r1 : w1.cell? ⟨w.heap.size + 2, 1, none⟩ = some (.slice none 0 0) := cellB hb (by simp [go_sem])
  have f0 : w1.frozen? ⟨w.heap.size + 2, 0, none⟩ = false := frozenL hb (by simp) (by simp [go_sem])
  have f1 : w1.frozen? ⟨w.heap.size + 2, 1, none⟩ = false := frozenL hb (by simp) (by simp [go_sem])
  have hz0 : w.heap.size < w1.heap.size := by omega
  have hz1 : w.heap.size + 1 < w1.heap.size := by omega
  have hz2 : w.heap.size + 2 < w1.heap.size := by omega
  clear hb
  rw [GX.out]
  go_wp2_with fail
  refine (implValidTun_any _ (.slice c y.tones.length cc) y _ ⟨rfl, hlw.mono (HB.out)⟩ hn2).mono ?_
  rintro e w2 ⟨rfl, hb⟩
  have hzb := hb.size
  have z0 := cellB hb z0
  have z1 := cellB hb z1
  have u0 := cellB hb u0
  have u1 := cellB hb u1
  have r0 := cellB hb r0
  have r1 := cellB hb r1
  have f0 := frozenL hb (by simp; omega) f0
  have f1 := frozenL hb (by simp; omega) f1
  have HB := Lib.hid (HB.out.trans (hb.mono HB.out.size))
  have hz : w.heap.size + 3 ≤ w2.heap.size := by omega
  have hz0 : w.heap.size < w2.heap.size := by omega
  have hz1 : w.heap.size + 1 < w2.heap.size := by omega
  have hz2 : w.heap.size + 2 < w2.heap.size := by omega
  clear hb hzb
  rw [GY.out]
  go_wp2_with fail
  refine (within_any true _ _ _ _ (yesB GG.out)).mono ?_
  rintro e w3 ⟨rfl, rfl⟩
  have n0 : ∀ o x, (ext w3.drew (some (w.heap.size + 2)) x).cell? ⟨w.heap.size, o, none⟩ = w3.drew.cell? ⟨w.heap.size, o, none⟩ := fun o x => cell?_ext hz0 (by simp)
  have n1 : ∀ o x, (ext w3.drew (some (w.heap.size + 2)) x).cell? ⟨w.heap.size + 1, o, none⟩ = w3.drew.cell? ⟨w.heap.size + 1, o, none⟩ := fun o x => cell?_ext hz1 (by simp)
  obtain ⟨en, hen⟩ : ∃ en, en = endOf x.tones := ⟨_, rfl⟩
  have hen2 : 0 ≤ en ∧ en ≤ 20000 := by rw [hen]; exact endOf_bd TX.out
  obtain ⟨en0, en1⟩ := hen2
  have hg2 : 0 ≤ en + g ∧ en + g ≤ 100000 := by have := GG.out; unfold gapIn at this; omega
  have q1 : IntKind.i64.wrap (en + g) = en + g := IntWalk.i64_in _ (by omega)
  have EN := Lib.hid hen
  have HG := Lib.hid hg2
  clear hen hg2
  go_wp2_with fail
  refine wp_region_ordG [(0, 1), (1, 1), (2, 1), (4, 1), (3, 0), (5, 1), (6, 0), (7, 1), (8, 1), (9, 0), (10, 1)] [3, 6, 9] (some (w.heap.size + 2)) (by kernel_rfl) (by kernel_rfl) ?_
  (repeat ((first | with_reducible refine wpOrdG_soft (fun K hK => ?_) | with_reducible refine wpOrdG_pre (fun K hK => ?_)); simp only [List.getElem?_toArray, List.getElem?_cons_zero, List.getElem?_cons_succ]; first | (go_simp; refine hK _ ?_) | (simp only [undef]; go_simp; refine hK _ ?_); clear hK K))
  (with_reducible refine wpOrdG_hard ?_; simp only [List.getElem?_toArray, List.getElem?_cons_zero, List.getElem?_cons_succ])
  go_wp2_with fail
  refine (tuneEnd_any _ (.slice a x.tones.length ca) x _ ⟨rfl, hlv.mono (by have hbw := HB.out; (repeat (first | with_reducible exact Below.refl _ _ | with_reducible exact hbw | (with_reducible refine Below.setCell ?_ ?_ _; rotate_left; · first | exact Nat.le_refl _ | omega | (simp; done) | (simp; omega)) | (with_reducible refine Below.alloc ?_ ?_ _; rotate_left; · first | exact Nat.le_refl _ | omega | (simp; done) | (simp; omega)) | with_reducible refine below_drewN ?_ _ | with_reducible refine Below.drew ?_)))⟩ TX.out).mono ?_
  rintro e w4 ⟨rfl, hb4⟩
  rw [← EN.out]
  go_wp2_with fail
  have hb4' := undrew hb4
  refine And.intro (grown_rowD hb4) ?_
  (repeat ((first | with_reducible refine wpOrdG_soft (fun K hK => ?_) | with_reducible refine wpOrdG_pre (fun K hK => ?_)); simp only [List.getElem?_toArray, List.getElem?_cons_zero, List.getElem?_cons_succ]; first | (go_simp; refine hK _ ?_) | (simp only [undef]; go_simp; refine hK _ ?_); clear hK K))
  (with_reducible refine wpOrdG_hard ?_; simp only [List.getElem?_toArray, List.getElem?_cons_zero, List.getElem?_cons_succ])
  go_wp2_with fail
  have hbw4 := HB.out.trans (hb4'.mono HB.out.size)
  refine (joined_any _ (.slice a x.tones.length ca) _ (.slice c y.tones.length cc) x y (en + g) _ ⟨rfl, hlv.mono hbw4⟩ ⟨rfl, hlw.mono hbw4⟩ hn GX.out GY.out HG.out.1 HG.out.2).mono ?_
  rintro e w5 ⟨v5, rfl, ho5, hb5⟩
  obtain ⟨c5, cap5, rfl⟩ := ho5.form
  have hz4 := hb4'.size
  have hz5 := hb5.size
  have hb35 := hb4'.trans (hb5.mono hz4)
  have r0 := cellB hb35 r0
  have r1 := cellB hb35 r1
  have f0 := frozenL hb35 (by simp; omega) f0
  have f1 := frozenL hb35 (by simp; omega) f1
  have hz6 : w.heap.size + 2 < w5.heap.size := by omega
  have hzw : w.heap.size ≤ w4.heap.size := by omega
  have hz7 : w.heap.size + 3 ≤ w4.heap.size := by omega
  have G5 := Lib.hid (grown_rowD (row := some (w.heap.size + 2)) (show Below w3.heap.size w3.drew w5 from hb4.trans (hb5.mono (by have := hb4.size; simpa using this))))
  have HB5 := Lib.hid (HB.out.trans (hb35.mono HB.out.size))
  have HO5 := Lib.hid ho5
  clear hb4 hb4' hb5 hb35 ho5 hbw4
  go_wp2_with fail
  refine And.intro G5.out ?_
  (repeat ((first | with_reducible refine wpOrdG_soft (fun K hK => ?_) | with_reducible refine wpOrdG_pre (fun K hK => ?_)); simp only [List.getElem?_toArray, List.getElem?_cons_zero, List.getElem?_cons_succ]; first | (go_simp; refine hK _ ?_) | (simp only [undef]; go_simp; refine hK _ ?_); clear hK K))
  (with_reducible refine wpOrdG_hard ?_; simp only [List.getElem?_toArray, List.getElem?_cons_zero, List.getElem?_cons_succ])
  go_wp2_with fail
  refine And.intro (grown_setD (grown_setD G5.out _ _) _ _) ?_
  (repeat ((first | with_reducible refine wpOrdG_soft (fun K hK => ?_) | with_reducible refine wpOrdG_pre (fun K hK => ?_)); simp only [List.getElem?_toArray, List.getElem?_cons_zero, List.getElem?_cons_succ]; first | (go_simp; refine hK _ ?_) | (simp only [undef]; go_simp; refine hK _ ?_); clear hK K))
  (with_reducible refine wpOrdG_nil ?_); refine NoPanic.normal ?_
  go_wp2
  refine bodyPost_ret (v := .tuple #[.agg #[.string (joV x y (en + g)).name, .slice c5 (joV x y (en + g)).tones.length cap5], .int .i64 (joC x y (en + g))]) (by simp [results, Tryz.results11, go_sem, hz6, r0, r1]) rfl ⟨_, by rw [E2.out, EN.out], ?_, ?_⟩
  · rw [E1.out, ← EN.out]
    refine (HO5.out.touch (B' := w.heap.size + 2) (E' := w.heap.size + 3) ?_ (Or.inr (by omega))).wide (by omega) (by simp)
    have htc := Touch.refl (w.heap.size + 2) (w.heap.size + 3) w5
    (repeat (first | with_reducible exact Touch.refl _ _ _ | with_reducible exact htc | (with_reducible refine Touch.setCell ?_ ?_ _; rotate_left; · (simp only; omega)) | (with_reducible refine Touch.setNew ?_ ?_ _; rotate_left; · (first | (simp only; omega) | (simp; done) | (simp; omega))) | with_reducible refine Touch.alloc ?_ _ | with_reducible refine Touch.drewN ?_ _ | with_reducible refine Touch.drew ?_))
  · have hbw := HB5.out
    (repeat (first | with_reducible exact Below.refl _ _ | with_reducible exact hbw | (with_reducible refine Below.setCell ?_ ?_ _; rotate_left; · first | exact Nat.le_refl _ | omega | (simp; done) | (simp; omega)) | (with_reducible refine Below.alloc ?_ ?_ _; rotate_left; · first | exact Nat.le_refl _ | omega | (simp; done) | (simp; omega)) | with_reducible refine below_drewN ?_ _ | with_reducible refine Below.drew ?_))

end Go.Proofs.YtgdfecnpkjnhnaaGreatDoor
/- Contract of mapped, for a function value that captures two variables. -/
set_option linter.unusedSimpArgs false
set_option linter.unnecessarySimpa false
set_option linter.unusedVariables false
set_option maxRecDepth 100000
namespace Go.Proofs.YtgdfecnpkjnhnaaGreatDoor
open Go.RowKit

set_option maxHeartbeats 1000000 in
theorem mapped2_any (N : Nat) (p q : Value) (F : Ton → Ton) (v lv : Value) (x : TunD) (w : World) (h : Tun w v lv x) (hs : x.name.size ≤ maxLen) (hl : x.tones.length ≤ 1000000)
    (hN : ∀ args w, Sem.run Tryz.prog (callFunc N args) w = .ok (.enter N args) w)
    (hF : ∀ k (hk : k < x.tones.length) (w1 : World), Below w.heap.size w w1 → Calls Tryz.prog N #[.agg #[.int .i64 x.tones[k].note, .int .i64 x.tones[k].start, .int .i64 x.tones[k].len], p, q] w1 fun e w2 => e = .returned (.agg #[.int .i64 (F x.tones[k]).note, .int .i64 (F x.tones[k]).start, .int .i64 (F x.tones[k]).len]) ∧ Below w1.heap.size w1 w2) :
    Calls Tryz.prog 22 #[v, .func (.func N) #[] #[p, q]] w fun e w' => ∃ v', e = .returned (.tuple #[v', .int .i64 (toC x.name (x.tones.map F))]) ∧ OwnTun w.heap.size w'.heap.size w' v' (toV x.name (x.tones.map F)) ∧ Below w.heap.size w w' := by
  obtain ⟨rfl, hlv⟩ := h
  obtain ⟨a, ca, rfl, hca, hcm, _⟩ := id hlv
  have HF := Lib.hid hF; clear hF
  go_enter Tryz.func22, Tryz.ntmps22
  go_wp2_with fail
  go_loopw [12, 6] (fun i tv wr => ∃ (k : Nat) (a' : Option Addr) (cap' : Nat), k ≤ x.tones.length ∧ i = .int .i64 (k : Int) ∧ tv = .slice a' k cap' ∧ wr.ownsRow (w.heap.size + 2) 50 3 (.slice a' k cap') k (((x.tones.map F).take k).flatMap Ton.cells) ∧ Below w.heap.size w wr ∧ w.heap.size + 2 ≤ wr.heap.size ∧ wr.cell? ⟨w.heap.size, 0, none⟩ = some (.string x.name) ∧ wr.cell? ⟨w.heap.size + 1, 0, none⟩ = some (.string ⟨#[]⟩) ∧ wr.cell? ⟨w.heap.size + 1, 1, none⟩ = some (.slice none 0 0) ∧ wr.frozen? ⟨w.heap.size + 1, 0, none⟩ = false ∧ wr.frozen? ⟨w.heap.size + 1, 1, none⟩ = false) (fun i tv _ => x.tones.length - (intOf i).toNat)
  case atStart => exact ⟨0, none, 0, Nat.zero_le _, by go_num, rfl, by simpa using owns_nil _ _ _ _, by (repeat (first | with_reducible exact Below.refl _ _ | with_reducible exact hbw | (with_reducible refine Below.setCell ?_ ?_ _; rotate_left; · first | exact Nat.le_refl _ | omega | (simp; done) | (simp; omega)) | (with_reducible refine Below.alloc ?_ ?_ _; rotate_left; · first | exact Nat.le_refl _ | omega | (simp; done) | (simp; omega)) | with_reducible refine below_drewN ?_ _ | with_reducible refine Below.drew ?_)), by simp, by simp [go_sem], by simp [go_sem], by simp [go_sem], by simp [go_sem], by simp [go_sem]⟩
  case round =>
    obtain ⟨k, a', cap', hk, rfl, rfl, ho, hb, hz, y0, r0, r1, f0, f1⟩ := hrel
    have HO := Lib.hid ho; clear ho
    by_cases hlt : k < x.tones.length
    · obtain ⟨b1, o1, rfl, hB1, c0, c1, c2⟩ := (hlv.mono hb).at hlt
      have l1 : b1 < wr.heap.size + 1 := by omega
      go_wp2_with fail
      refine (HF.out k hlt _ ?_).mono ?_
      · have hbw := hb
        (repeat (first | with_reducible exact Below.refl _ _ | with_reducible exact hbw | (with_reducible refine Below.setCell ?_ ?_ _; rotate_left; · first | exact Nat.le_refl _ | omega | (simp; done) | (simp; omega)) | (with_reducible refine Below.alloc ?_ ?_ _; rotate_left; · first | exact Nat.le_refl _ | omega | (simp; done) | (simp; omega)) | with_reducible refine below_drewN ?_ _ | with_reducible refine Below.drew ?_))
      rintro e w1 ⟨rfl, hb1⟩
      have hb2 : Below wr.heap.size wr w1 := Below.trans (by (repeat (first | with_reducible exact Below.refl _ _ | with_reducible exact hbw | (with_reducible refine Below.setCell ?_ ?_ _; rotate_left; · first | exact Nat.le_refl _ | omega | (simp; done) | (simp; omega)) | (with_reducible refine Below.alloc ?_ ?_ _; rotate_left; · first | exact Nat.le_refl _ | omega | (simp; done) | (simp; omega)) | with_reducible refine below_drewN ?_ _ | with_reducible refine Below.drew ?_))) (hb1.mono (by simp <;> omega))
      have hz1 : wr.heap.size + 1 ≤ w1.heap.size := by have := hb1.size; simp at this; omega
      have i0 : w1.cell? ⟨wr.heap.size, 0, none⟩ = some (.int .i64 x.tones[k].note) := cellB hb1 (by simp [go_sem])
      have y0 := cellB hb2 y0
      have r0 := cellB hb2 r0
      have r1 := cellB hb2 r1
      have f0 := frozenL hb2 (by simp; omega) f0
      have f1 := frozenL hb2 (by simp; omega) f1
      have hoX := owns_mono HO.out hb2
      have hbX := hb.trans (hb2.mono hb.size)
      have HBX := Lib.hid hbX
      clear hb1 hb2 hbX
      go_wp2_with (at_builtin; refine append_one_at rfl _ _ 24 rfl (w.heap.size + 2) 50 _ 3 24 Tryz.underlying24 info_Tone rfl (by decide) _ k _ rfl hoX [.int .i64 (F x.tones[k]).note, .int .i64 (F x.tones[k]).start, .int .i64 (F x.tones[k]).len] rfl (by intro u hu; simp at hu; rcases hu with rfl | rfl | rfl <;> rfl) w1.heap.size (by simp) rfl (by omega) (by decide) (by omega) ?_)
      intro a5 cap5 w5 ho5 hg5 hb5 hat5
      have hz5 := hb5.size
      have y0 := cellL hb5 (by simp) y0
      have r0 := cellL hb5 (by simp) r0
      have r1 := cellL hb5 (by simp) r1
      have f0 := frozenL hb5 (by simp) f0
      have f1 := frozenL hb5 (by simp) f1
      have HB5 := Lib.hid (HBX.out.trans (hb5.mono (by omega)))
      have HO5 := Lib.hid ho5
      clear hb5 ho5 hg5 hat5
      go_wp2
      go_roundw
      case rel => exact ⟨k + 1, a5, cap5, by omega, by go_num, rfl, by rw [map_snoc _ F k hlt]; exact HO5.out, HB5.out, by omega, y0, r0, r1, f0, f1⟩
      case measure => simp [intOf] <;> omega
    · obtain rfl : k = x.tones.length := by omega
      have e0 : (x.tones.map F).take x.tones.length = x.tones.map F := List.take_of_length_le (by simp)
      have ho := HO.out
      rw [e0] at ho
      have HO2 := Lib.hid ho; clear ho e0
      go_wp2_with fail
      refine (tuneOf_any (w.heap.size + 2) x.tones.length x.name _ (x.tones.map F) _ (OwnRow.mk' HO2.out) (by simp) hl hs hz).mono ?_
      rintro e w1 ⟨v1, rfl, ho1, ht⟩
      obtain ⟨c1, cap1, rfl⟩ := ho1.form
      have hz1 := ht.size
      have r0 := cellT ht r0 (Or.inl (by simp))
      have r1 := cellT ht r1 (Or.inl (by simp))
      have f0 := touch_frozen ht (by simp; omega) (Or.inl (by simp)) f0
      have f1 := touch_frozen ht (by simp; omega) (Or.inl (by simp)) f1
      have hb1 : Below w.heap.size w w1 := ht.below (b := w.heap.size) hb (by omega) hb.size
      have HO1 := Lib.hid ho1
      have hz3 : w.heap.size + 1 < w1.heap.size := by omega
      clear ho1 ht hb
      go_wp2
      refine bodyPost_ret (v := .tuple #[.agg #[.string (toV x.name (x.tones.map F)).name, .slice c1 (toV x.name (x.tones.map F)).tones.length cap1], .int .i64 (toC x.name (x.tones.map F))]) (by simp [results, Tryz.results22, go_sem, hz3, r0, r1]) rfl ⟨_, rfl, ?_, ?_⟩
      · refine (HO1.out.touch (B' := w.heap.size + 1) (E' := w.heap.size + 2) ?_ (Or.inr (Nat.le_refl _))).wide (by omega) (by simp)
        have htc := Touch.refl (w.heap.size + 1) (w.heap.size + 2) w1
        (repeat (first | with_reducible exact Touch.refl _ _ _ | with_reducible exact htc | (with_reducible refine Touch.setCell ?_ ?_ _; rotate_left; · (simp only; omega)) | (with_reducible refine Touch.setNew ?_ ?_ _; rotate_left; · (first | (simp only; omega) | (simp; done) | (simp; omega))) | with_reducible refine Touch.alloc ?_ _ | with_reducible refine Touch.drewN ?_ _ | with_reducible refine Touch.drew ?_))
      · have hbw := hb1
        (repeat (first | with_reducible exact Below.refl _ _ | with_reducible exact hbw | (with_reducible refine Below.setCell ?_ ?_ _; rotate_left; · first | exact Nat.le_refl _ | omega | (simp; done) | (simp; omega)) | (with_reducible refine Below.alloc ?_ ?_ _; rotate_left; · first | exact Nat.le_refl _ | omega | (simp; done) | (simp; omega)) | with_reducible refine below_drewN ?_ _ | with_reducible refine Below.drew ?_))

end Go.Proofs.YtgdfecnpkjnhnaaGreatDoor
/- Contract of impl.StretchTune. -/
set_option linter.unusedSimpArgs false
set_option linter.unnecessarySimpa false
set_option linter.unusedVariables false
set_option maxRecDepth 100000
namespace Go.Proofs.YtgdfecnpkjnhnaaGreatDoor
open Go.RowKit

def strF (n d : Int) (x : Ton) : Ton := ⟨x.note, (x.start * n).tdiv d, max 1 (((x.start + x.len) * n).tdiv d - (x.start * n).tdiv d)⟩

theorem enters_str (args : Array Value) (w : World) : Sem.run Tryz.prog (callFunc 37 args) w = .ok (.enter 37 args) w := by
  first | rfl | (simp [callFunc, go_sem]; done) | (go_simp; done)
theorem tdiv_nn {a b : Int} (h : 0 ≤ a) (hb : 1 ≤ b) : 0 ≤ a.tdiv b ∧ a.tdiv b ≤ a := by
  rw [Int.tdiv_eq_ediv_of_nonneg h]
  exact ⟨Int.ediv_nonneg h (by omega), Int.ediv_le_self b h⟩
theorem mul_bd {a n : Int} (h : 0 ≤ a) (ha : a ≤ 40000) (hn : 1 ≤ n) (hm : n ≤ 100) : 0 ≤ a * n ∧ a * n ≤ 4000000 := by
  refine ⟨Int.mul_nonneg h (by omega), ?_⟩
  have := Int.mul_le_mul ha hm (by omega) (by omega)
  omega
structure StrOk (n d : Int) (x : Ton) : Prop where
  m1 : IntKind.i64.wrap (x.start * n) = x.start * n
  t1 : IntKind.i64.wrap ((x.start * n).tdiv d) = (x.start * n).tdiv d
  a1 : IntKind.i64.wrap (x.start + x.len) = x.start + x.len
  m2 : IntKind.i64.wrap ((x.start + x.len) * n) = (x.start + x.len) * n
  t2 : IntKind.i64.wrap (((x.start + x.len) * n).tdiv d) = ((x.start + x.len) * n).tdiv d
  s : IntKind.i64.wrap (((x.start + x.len) * n).tdiv d - (x.start * n).tdiv d) = ((x.start + x.len) * n).tdiv d - (x.start * n).tdiv d
  b1 : 0 ≤ (x.start * n).tdiv d ∧ (x.start * n).tdiv d ≤ 4000000
  b2 : 0 ≤ ((x.start + x.len) * n).tdiv d ∧ ((x.start + x.len) * n).tdiv d ≤ 4000000
theorem strOk {n d : Int} {x : Ton} (h : TonOk x) (hn : 1 ≤ n) (hm : n ≤ 100) (hd : 1 ≤ d) : StrOk n d x := by
  obtain ⟨f1, f2, f3, f4⟩ := h.fits
  have q1 := mul_bd (a := x.start) f1 (by omega) hn hm
  have q2 := mul_bd (a := x.start + x.len) (by omega) (by omega) hn hm
  have r1 := tdiv_nn q1.1 hd
  have r2 := tdiv_nn q2.1 hd
  exact ⟨IntWalk.i64_in _ (by omega), IntWalk.i64_in _ (by omega), IntWalk.i64_in _ (by omega), IntWalk.i64_in _ (by omega), IntWalk.i64_in _ (by omega), IntWalk.i64_in _ (by omega), by omega, by omega⟩

set_option maxHeartbeats 400000 in
theorem str1_any (x : Ton) (c1 c2 : Nat) (n d : Int) (w : World) (h1 : w.cell? ⟨c1, 0, none⟩ = some (.int .i64 n)) (h2 : w.cell? ⟨c2, 0, none⟩ = some (.int .i64 d)) (ok : TonOk x) (hn : 1 ≤ n) (hm : n ≤ 100) (hd : 1 ≤ d) :
    Calls Tryz.prog 37 #[.agg #[.int .i64 x.note, .int .i64 x.start, .int .i64 x.len], .pointer (some ⟨c1, 0, none⟩), .pointer (some ⟨c2, 0, none⟩)] w fun e' w' => e' = .returned (.agg #[.int .i64 (strF n d x).note, .int .i64 (strF n d x).start, .int .i64 (strF n d x).len]) ∧ Below w.heap.size w w' := by
  have hl1 := World.block_lt_of_cell? w _ h1
  have hl2 := World.block_lt_of_cell? w _ h2
  simp only at hl1 hl2
  have l1 : c1 < w.heap.size + 1 := by omega
  have l2 : c1 < w.heap.size + 1 + 1 := by omega
  have l3 : c2 < w.heap.size + 1 := by omega
  have l4 : c2 < w.heap.size + 1 + 1 := by omega
  obtain ⟨m1, t1, a1, m2, t2, s, B1, B2⟩ := strOk ok hn hm hd
  have dz : ¬ d = 0 := by omega
  have dz2 : (d == 0) = false := by simpa using dz
  clear hn hm hd ok B1 B2
  go_enter Tryz.func37, Tryz.ntmps37
  go_wp2_with fail
  go_quiet (fail)
  go_wp2
  all_goals
    refine bodyPost_ret (v := .agg #[.int .i64 x.note, .int .i64 ((x.start * n).tdiv d), .int .i64 (max 1 (((x.start + x.len) * n).tdiv d - (x.start * n).tdiv d))]) (by simp [results, Tryz.results37, go_sem]; try omega) rfl ⟨rfl, ?_⟩
    (repeat (first | with_reducible exact Below.refl _ _ | with_reducible exact hbw | (with_reducible refine Below.setCell ?_ ?_ _; rotate_left; · first | exact Nat.le_refl _ | omega | (simp; done) | (simp; omega)) | (with_reducible refine Below.alloc ?_ ?_ _; rotate_left; · first | exact Nat.le_refl _ | omega | (simp; done) | (simp; omega)) | with_reducible refine below_drewN ?_ _ | with_reducible refine Below.drew ?_))

def strIn (n d : Int) : Prop := (1 ≤ n ∧ n ≤ 100) ∧ (1 ≤ d ∧ d ≤ 100)
instance (n d : Int) : Decidable (strIn n d) := by unfold strIn; infer_instance
noncomputable def strV (x : TunD) (n d : Int) : TunD := if validTunB x = true then if strIn n d then toV x.name (x.tones.map (strF n d)) else ⟨.empty, []⟩ else ⟨.empty, []⟩
noncomputable def strC (x : TunD) (n d : Int) : Int := if validTunB x = true then if strIn n d then toC x.name (x.tones.map (strF n d)) else 2 else 1
theorem str_yes {x : TunD} {n d : Int} (h : validTunB x = true) (g : strIn n d) : strV x n d = toV x.name (x.tones.map (strF n d)) ∧ strC x n d = toC x.name (x.tones.map (strF n d)) := by unfold strV strC; rw [if_pos h, if_pos h, if_pos g, if_pos g]; exact ⟨rfl, rfl⟩
theorem str_rng {x : TunD} {n d : Int} (h : validTunB x = true) (g : ¬ strIn n d) : strV x n d = ⟨.empty, []⟩ ∧ strC x n d = 2 := by unfold strV strC; rw [if_pos h, if_pos h, if_neg g, if_neg g]; exact ⟨rfl, rfl⟩
theorem str_inv {x : TunD} {n d : Int} (h : ¬ validTunB x = true) : strV x n d = ⟨.empty, []⟩ ∧ strC x n d = 1 := by unfold strV strC; rw [if_neg h, if_neg h]; exact ⟨rfl, rfl⟩

set_option maxHeartbeats 1000000 in
theorem implStretchTune_any (v : Value) (x : TunD) (n d : Int) (w : World) (h : RdTun w v x) (ok : x.ok) (hs : x.tones.length ≤ 1048576) (_ : I64 n) (_ : I64 d) :
    Calls Tryz.prog 17 #[v, .int .i64 n, .int .i64 d] w fun e w' => ∃ v', e = .returned (.tuple #[v', .int .i64 (strC x n d)]) ∧ OwnTun w.heap.size w'.heap.size w' v' (strV x n d) ∧ Below w.heap.size w w' := by
  obtain ⟨lv, rfl, hlv⟩ := h
  obtain ⟨a, ca, rfl, hca, hcm, _⟩ := id hlv
  have hn := ok.1
  by_cases g : validTunB x = true
  · by_cases g1 : 1 ≤ n ∧ n ≤ 100
    · by_cases g2 : 1 ≤ d ∧ d ≤ 100
      · obtain ⟨e1, e2⟩ := str_yes g ⟨g1, g2⟩
        have E1 := Lib.hid e1; have E2 := Lib.hid e2; have G := Lib.hid g; have G1 := Lib.hid g1; have G2 := Lib.hid g2; clear e1 e2 g g1 g2
        go_enter Tryz.func17, Tryz.ntmps17
        go_wp2_with fail
        refine (implValidTun_any _ (.slice a x.tones.length ca) x _ ⟨rfl, hlv.mono (by (repeat (first | with_reducible exact Below.refl _ _ | with_reducible exact hbw | (with_reducible refine Below.setCell ?_ ?_ _; rotate_left; · first | exact Nat.le_refl _ | omega | (simp; done) | (simp; omega)) | (with_reducible refine Below.alloc ?_ ?_ _; rotate_left; · first | exact Nat.le_refl _ | omega | (simp; done) | (simp; omega)) | with_reducible refine below_drewN ?_ _ | with_reducible refine Below.drew ?_)))⟩ hn).mono ?_
        rintro e w1 ⟨rfl, hb⟩
        have HB := Lib.hid (show Below w.heap.size w w1 from Below.trans (by (repeat (first | with_reducible exact Below.refl _ _ | with_reducible exact hbw | (with_reducible refine Below.setCell ?_ ?_ _; rotate_left; · first | exact Nat.le_refl _ | omega | (simp; done) | (simp; omega)) | (with_reducible refine Below.alloc ?_ ?_ _; rotate_left; · first | exact Nat.le_refl _ | omega | (simp; done) | (simp; omega)) | with_reducible refine below_drewN ?_ _ | with_reducible refine Below.drew ?_))) (hb.mono (by simp <;> omega)))
        have hz : w.heap.size + 4 ≤ w1.heap.size := by have := hb.size; simp at this; omega
        have z0 : w1.cell? ⟨w.heap.size, 0, none⟩ = some (.string x.name) := cellB hb (by simp [go_sem])
        have z1 : w1.cell? ⟨w.heap.size, 1, none⟩ = some (.slice a x.tones.length ca) := cellB hb (by simp [go_sem])
        have z2 : w1.cell? ⟨w.heap.size + 1, 0, none⟩ = some (.int .i64 n) := cellB hb (by simp [go_sem])
        have z3 : w1.cell? ⟨w.heap.size + 2, 0, none⟩ = some (.int .i64 d) := cellB hb (by simp [go_sem])
        have r0 : w1.cell? ⟨w.heap.size + 3, 0, none⟩ = some (.string ⟨#[]⟩) := cellB hb (by simp [go_sem])
        have r1 : w1.cell? ⟨w.heap.size + 3, 1, none⟩ = some (.slice none 0 0) := cellB hb (by simp [go_sem])
        have f0 : w1.frozen? ⟨w.heap.size + 3, 0, none⟩ = false := frozenL hb (by simp) (by simp [go_sem])
        have f1 : w1.frozen? ⟨w.heap.size + 3, 1, none⟩ = false := frozenL hb (by simp) (by simp [go_sem])
        have hz0 : w.heap.size < w1.heap.size := by omega
        have hz1 : w.heap.size + 1 < w1.heap.size := by omega
        have hz2 : w.heap.size + 2 < w1.heap.size := by omega
        have hz3 : w.heap.size + 3 < w1.heap.size := by omega
        clear hb
        rw [G.out]
        go_wp2_with fail
        refine (within_any true _ _ _ _ (yesB G1.out)).mono ?_
        rintro e w2 ⟨rfl, rfl⟩
        go_wp2_with fail
        refine (within_any true _ _ _ _ (yesB G2.out)).mono ?_
        rintro e w3 ⟨rfl, rfl⟩
        go_wp2_with fail
        have hTo : Tun w3 (.agg #[.string x.name, .slice a x.tones.length ca]) (.slice a x.tones.length ca) x := ⟨rfl, hlv.mono HB.out⟩
        refine (mapped2_any 37 (.pointer (some ⟨w.heap.size + 1, 0, none⟩)) (.pointer (some ⟨w.heap.size + 2, 0, none⟩)) (strF n d) _ _ x _ hTo hn (Nat.le_trans (tun_len G.out) (by decide)) enters_str (fun k hk w3 hb3 => str1_any x.tones[k] _ _ n d w3 (cellB hb3 z2) (cellB hb3 z3) (tun_tone G.out hk) G1.out.1 G1.out.2 G2.out.1)).mono ?_
        rintro e w4 ⟨v3, rfl, ho3, hb3⟩
        obtain ⟨c1, cap1, rfl⟩ := ho3.form
        have hz5 := hb3.size
        have r0 := cellB hb3 r0
        have r1 := cellB hb3 r1
        have f0 := frozenL hb3 (by simp; omega) f0
        have f1 := frozenL hb3 (by simp; omega) f1
        have hz4 : w.heap.size + 3 < w4.heap.size := by omega
        have HB3 := Lib.hid (HB.out.trans (hb3.mono (by omega)))
        have HO3 := Lib.hid ho3
        clear hb3 ho3 z0 z1 z2 z3
        go_wp2
        refine bodyPost_ret (v := .tuple #[.agg #[.string (toV x.name (x.tones.map (strF n d))).name, .slice c1 (toV x.name (x.tones.map (strF n d))).tones.length cap1], .int .i64 (toC x.name (x.tones.map (strF n d)))]) (by simp [results, Tryz.results17, go_sem, hz4, r0, r1]) rfl ⟨_, by rw [E2.out], ?_, ?_⟩
        · rw [E1.out]
          refine (HO3.out.touch (B' := w.heap.size + 3) (E' := w.heap.size + 4) ?_ (Or.inr hz)).wide (by omega) (by simp)
          have htc := Touch.refl (w.heap.size + 3) (w.heap.size + 4) w4
          (repeat (first | with_reducible exact Touch.refl _ _ _ | with_reducible exact htc | (with_reducible refine Touch.setCell ?_ ?_ _; rotate_left; · (simp only; omega)) | (with_reducible refine Touch.setNew ?_ ?_ _; rotate_left; · (first | (simp only; omega) | (simp; done) | (simp; omega))) | with_reducible refine Touch.alloc ?_ _ | with_reducible refine Touch.drewN ?_ _ | with_reducible refine Touch.drew ?_))
        · have hbw := HB3.out
          (repeat (first | with_reducible exact Below.refl _ _ | with_reducible exact hbw | (with_reducible refine Below.setCell ?_ ?_ _; rotate_left; · first | exact Nat.le_refl _ | omega | (simp; done) | (simp; omega)) | (with_reducible refine Below.alloc ?_ ?_ _; rotate_left; · first | exact Nat.le_refl _ | omega | (simp; done) | (simp; omega)) | with_reducible refine below_drewN ?_ _ | with_reducible refine Below.drew ?_))
      · obtain ⟨e1, e2⟩ := str_rng (n := n) (d := d) g (fun h => g2 h.2)
        have E1 := Lib.hid e1; have E2 := Lib.hid e2; have G := Lib.hid g; have G1 := Lib.hid g1; have G2 := Lib.hid g2; clear e1 e2 g g1 g2
        go_enter Tryz.func17, Tryz.ntmps17
        go_wp2_with fail
        refine (implValidTun_any _ (.slice a x.tones.length ca) x _ ⟨rfl, hlv.mono (by (repeat (first | with_reducible exact Below.refl _ _ | with_reducible exact hbw | (with_reducible refine Below.setCell ?_ ?_ _; rotate_left; · first | exact Nat.le_refl _ | omega | (simp; done) | (simp; omega)) | (with_reducible refine Below.alloc ?_ ?_ _; rotate_left; · first | exact Nat.le_refl _ | omega | (simp; done) | (simp; omega)) | with_reducible refine below_drewN ?_ _ | with_reducible refine Below.drew ?_)))⟩ hn).mono ?_
        rintro e w1 ⟨rfl, hb⟩
        have HB := Lib.hid (show Below w.heap.size w w1 from Below.trans (by (repeat (first | with_reducible exact Below.refl _ _ | with_reducible exact hbw | (with_reducible refine Below.setCell ?_ ?_ _; rotate_left; · first | exact Nat.le_refl _ | omega | (simp; done) | (simp; omega)) | (with_reducible refine Below.alloc ?_ ?_ _; rotate_left; · first | exact Nat.le_refl _ | omega | (simp; done) | (simp; omega)) | with_reducible refine below_drewN ?_ _ | with_reducible refine Below.drew ?_))) (hb.mono (by simp <;> omega)))
        have hz : w.heap.size + 4 ≤ w1.heap.size := by have := hb.size; simp at this; omega
        have z0 : w1.cell? ⟨w.heap.size, 0, none⟩ = some (.string x.name) := cellB hb (by simp [go_sem])
        have z1 : w1.cell? ⟨w.heap.size, 1, none⟩ = some (.slice a x.tones.length ca) := cellB hb (by simp [go_sem])
        have z2 : w1.cell? ⟨w.heap.size + 1, 0, none⟩ = some (.int .i64 n) := cellB hb (by simp [go_sem])
        have z3 : w1.cell? ⟨w.heap.size + 2, 0, none⟩ = some (.int .i64 d) := cellB hb (by simp [go_sem])
        have r0 : w1.cell? ⟨w.heap.size + 3, 0, none⟩ = some (.string ⟨#[]⟩) := cellB hb (by simp [go_sem])
        have r1 : w1.cell? ⟨w.heap.size + 3, 1, none⟩ = some (.slice none 0 0) := cellB hb (by simp [go_sem])
        have f0 : w1.frozen? ⟨w.heap.size + 3, 0, none⟩ = false := frozenL hb (by simp) (by simp [go_sem])
        have f1 : w1.frozen? ⟨w.heap.size + 3, 1, none⟩ = false := frozenL hb (by simp) (by simp [go_sem])
        have hz0 : w.heap.size < w1.heap.size := by omega
        have hz1 : w.heap.size + 1 < w1.heap.size := by omega
        have hz2 : w.heap.size + 2 < w1.heap.size := by omega
        have hz3 : w.heap.size + 3 < w1.heap.size := by omega
        clear hb
        rw [G.out]
        go_wp2_with fail
        refine (within_any true _ _ _ _ (yesB G1.out)).mono ?_
        rintro e w2 ⟨rfl, rfl⟩
        go_wp2_with fail
        refine (within_any false _ _ _ _ (noB G2.out)).mono ?_
        rintro e w3 ⟨rfl, rfl⟩
        go_wp2
        refine bodyPost_ret (v := .tuple #[.agg #[.string ⟨#[]⟩, .slice none 0 0], .int .i64 2]) (by simp [results, Tryz.results17, go_sem, hz3, r0, r1]) rfl ⟨_, by rw [E2.out], by rw [E1.out]; exact ownT_zero _ _ _, ?_⟩
        have hbw := HB.out
        (repeat (first | with_reducible exact Below.refl _ _ | with_reducible exact hbw | (with_reducible refine Below.setCell ?_ ?_ _; rotate_left; · first | exact Nat.le_refl _ | omega | (simp; done) | (simp; omega)) | (with_reducible refine Below.alloc ?_ ?_ _; rotate_left; · first | exact Nat.le_refl _ | omega | (simp; done) | (simp; omega)) | with_reducible refine below_drewN ?_ _ | with_reducible refine Below.drew ?_))
    · obtain ⟨e1, e2⟩ := str_rng (n := n) (d := d) g (fun h => g1 h.1)
      have E1 := Lib.hid e1; have E2 := Lib.hid e2; have G := Lib.hid g; have G1 := Lib.hid g1; clear e1 e2 g g1
      go_enter Tryz.func17, Tryz.ntmps17
      go_wp2_with fail
      refine (implValidTun_any _ (.slice a x.tones.length ca) x _ ⟨rfl, hlv.mono (by (repeat (first | with_reducible exact Below.refl _ _ | with_reducible exact hbw | (with_reducible refine Below.setCell ?_ ?_ _; rotate_left; · first | exact Nat.le_refl _ | omega | (simp; done) | (simp; omega)) | (with_reducible refine Below.alloc ?_ ?_ _; rotate_left; · first | exact Nat.le_refl _ | omega | (simp; done) | (simp; omega)) | with_reducible refine below_drewN ?_ _ | with_reducible refine Below.drew ?_)))⟩ hn).mono ?_
      rintro e w1 ⟨rfl, hb⟩
      have HB := Lib.hid (show Below w.heap.size w w1 from Below.trans (by (repeat (first | with_reducible exact Below.refl _ _ | with_reducible exact hbw | (with_reducible refine Below.setCell ?_ ?_ _; rotate_left; · first | exact Nat.le_refl _ | omega | (simp; done) | (simp; omega)) | (with_reducible refine Below.alloc ?_ ?_ _; rotate_left; · first | exact Nat.le_refl _ | omega | (simp; done) | (simp; omega)) | with_reducible refine below_drewN ?_ _ | with_reducible refine Below.drew ?_))) (hb.mono (by simp <;> omega)))
      have hz : w.heap.size + 4 ≤ w1.heap.size := by have := hb.size; simp at this; omega
      have z0 : w1.cell? ⟨w.heap.size, 0, none⟩ = some (.string x.name) := cellB hb (by simp [go_sem])
      have z1 : w1.cell? ⟨w.heap.size, 1, none⟩ = some (.slice a x.tones.length ca) := cellB hb (by simp [go_sem])
      have z2 : w1.cell? ⟨w.heap.size + 1, 0, none⟩ = some (.int .i64 n) := cellB hb (by simp [go_sem])
      have z3 : w1.cell? ⟨w.heap.size + 2, 0, none⟩ = some (.int .i64 d) := cellB hb (by simp [go_sem])
      have r0 : w1.cell? ⟨w.heap.size + 3, 0, none⟩ = some (.string ⟨#[]⟩) := cellB hb (by simp [go_sem])
      have r1 : w1.cell? ⟨w.heap.size + 3, 1, none⟩ = some (.slice none 0 0) := cellB hb (by simp [go_sem])
      have f0 : w1.frozen? ⟨w.heap.size + 3, 0, none⟩ = false := frozenL hb (by simp) (by simp [go_sem])
      have f1 : w1.frozen? ⟨w.heap.size + 3, 1, none⟩ = false := frozenL hb (by simp) (by simp [go_sem])
      have hz0 : w.heap.size < w1.heap.size := by omega
      have hz1 : w.heap.size + 1 < w1.heap.size := by omega
      have hz2 : w.heap.size + 2 < w1.heap.size := by omega
      have hz3 : w.heap.size + 3 < w1.heap.size := by omega
      clear hb
      rw [G.out]
      go_wp2_with fail
      refine (within_any false _ _ _ _ (noB G1.out)).mono ?_
      rintro e w2 ⟨rfl, rfl⟩
      go_wp2
      refine bodyPost_ret (v := .tuple #[.agg #[.string ⟨#[]⟩, .slice none 0 0], .int .i64 2]) (by simp [results, Tryz.results17, go_sem, hz3, r0, r1]) rfl ⟨_, by rw [E2.out], by rw [E1.out]; exact ownT_zero _ _ _, ?_⟩
      have hbw := HB.out
      (repeat (first | with_reducible exact Below.refl _ _ | with_reducible exact hbw | (with_reducible refine Below.setCell ?_ ?_ _; rotate_left; · first | exact Nat.le_refl _ | omega | (simp; done) | (simp; omega)) | (with_reducible refine Below.alloc ?_ ?_ _; rotate_left; · first | exact Nat.le_refl _ | omega | (simp; done) | (simp; omega)) | with_reducible refine below_drewN ?_ _ | with_reducible refine Below.drew ?_))
  · obtain ⟨e1, e2⟩ := str_inv (n := n) (d := d) g
    have E1 := Lib.hid e1; have E2 := Lib.hid e2; have G := Lib.hid (show validTunB x = false by simpa using g); clear e1 e2 g
    go_enter Tryz.func17, Tryz.ntmps17
    go_wp2_with fail
    refine (implValidTun_any _ (.slice a x.tones.length ca) x _ ⟨rfl, hlv.mono (by (repeat (first | with_reducible exact Below.refl _ _ | with_reducible exact hbw | (with_reducible refine Below.setCell ?_ ?_ _; rotate_left; · first | exact Nat.le_refl _ | omega | (simp; done) | (simp; omega)) | (with_reducible refine Below.alloc ?_ ?_ _; rotate_left; · first | exact Nat.le_refl _ | omega | (simp; done) | (simp; omega)) | with_reducible refine below_drewN ?_ _ | with_reducible refine Below.drew ?_)))⟩ hn).mono ?_
    rintro e w1 ⟨rfl, hb⟩
    have HB := Lib.hid (show Below w.heap.size w w1 from Below.trans (by (repeat (first | with_reducible exact Below.refl _ _ | with_reducible exact hbw | (with_reducible refine Below.setCell ?_ ?_ _; rotate_left; · first | exact Nat.le_refl _ | omega | (simp; done) | (simp; omega)) | (with_reducible refine Below.alloc ?_ ?_ _; rotate_left; · first | exact Nat.le_refl _ | omega | (simp; done) | (simp; omega)) | with_reducible refine below_drewN ?_ _ | with_reducible refine Below.drew ?_))) (hb.mono (by simp <;> omega)))
    have hz : w.heap.size + 4 ≤ w1.heap.size := by have := hb.size; simp at this; omega
    have z0 : w1.cell? ⟨w.heap.size, 0, none⟩ = some (.string x.name) := cellB hb (by simp [go_sem])
    have z1 : w1.cell? ⟨w.heap.size, 1, none⟩ = some (.slice a x.tones.length ca) := cellB hb (by simp [go_sem])
    have z2 : w1.cell? ⟨w.heap.size + 1, 0, none⟩ = some (.int .i64 n) := cellB hb (by simp [go_sem])
    have z3 : w1.cell? ⟨w.heap.size + 2, 0, none⟩ = some (.int .i64 d) := cellB hb (by simp [go_sem])
    have r0 : w1.cell? ⟨w.heap.size + 3, 0, none⟩ = some (.string ⟨#[]⟩) := cellB hb (by simp [go_sem])
    have r1 : w1.cell? ⟨w.heap.size + 3, 1, none⟩ = some (.slice none 0 0) := cellB hb (by simp [go_sem])
    have f0 : w1.frozen? ⟨w.heap.size + 3, 0, none⟩ = false := frozenL hb (by simp) (by simp [go_sem])
    have f1 : w1.frozen? ⟨w.heap.size + 3, 1, none⟩ = false := frozenL hb (by simp) (by simp [go_sem])
    have hz0 : w.heap.size < w1.heap.size := by omega
    have hz1 : w.heap.size + 1 < w1.heap.size := by omega
    have hz2 : w.heap.size + 2 < w1.heap.size := by omega
    have hz3 : w.heap.size + 3 < w1.heap.size := by omega
    clear hb
    rw [G.out]
    go_wp2
    refine bodyPost_ret (v := .tuple #[.agg #[.string ⟨#[]⟩, .slice none 0 0], .int .i64 1]) (by simp [results, Tryz.results17, go_sem, hz3, r0, r1]) rfl ⟨_, by rw [E2.out], by rw [E1.out]; exact ownT_zero _ _ _, ?_⟩
    have hbw := HB.out
    (repeat (first | with_reducible exact Below.refl _ _ | with_reducible exact hbw | (with_reducible refine Below.setCell ?_ ?_ _; rotate_left; · first | exact Nat.le_refl _ | omega | (simp; done) | (simp; omega)) | (with_reducible refine Below.alloc ?_ ?_ _; rotate_left; · first | exact Nat.le_refl _ | omega | (simp; done) | (simp; omega)) | with_reducible refine below_drewN ?_ _ | with_reducible refine Below.drew ?_))

end Go.Proofs.YtgdfecnpkjnhnaaGreatDoor
