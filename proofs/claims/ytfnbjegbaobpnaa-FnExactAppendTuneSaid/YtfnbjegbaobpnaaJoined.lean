/- Contract of impl.joined. -/
import Derived.Test.YtfnbjegbaobpnaaClone
import Derived.Test.YtfnbjegbaobpnaaTransI
import Derived.Test.YtfnbjegbaobpnaaTuneEnd
set_option linter.unusedSimpArgs false
set_option linter.unnecessarySimpa false
set_option linter.unusedVariables false
set_option maxRecDepth 100000
namespace Go.Proofs.Ytfnbjegbaobpnaa
open Go.RowKit

def shF (b : Int) (x : Ton) : Ton := ⟨x.note, x.start + b, x.len⟩
def joL (x y : TunD) (b : Int) : List Ton := x.tones ++ y.tones.map (shF b)
def joFits (x y : TunD) : Prop := x.tones.length + y.tones.length ≤ 128
instance (x y : TunD) : Decidable (joFits x y) := by unfold joFits; infer_instance
noncomputable def joV (x y : TunD) (b : Int) : TunD := if joFits x y then toV x.name (joL x y b) else ⟨.empty, []⟩
noncomputable def joC (x y : TunD) (b : Int) : Int := if joFits x y then toC x.name (joL x y b) else 5
theorem jo_yes {x y : TunD} {b : Int} (h : joFits x y) : joV x y b = toV x.name (joL x y b) ∧ joC x y b = toC x.name (joL x y b) := by unfold joV joC; rw [if_pos h, if_pos h]; exact ⟨rfl, rfl⟩
theorem jo_no {x y : TunD} {b : Int} (h : ¬ joFits x y) : joV x y b = ⟨.empty, []⟩ ∧ joC x y b = 5 := by unfold joV joC; rw [if_neg h, if_neg h]; exact ⟨rfl, rfl⟩
theorem jo_snoc (xs ys : List Ton) (F : Ton → Ton) (k : Nat) (hk : k < ys.length) : (xs ++ (ys.map F).take (k + 1)).flatMap Ton.cells = (xs ++ (ys.map F).take k).flatMap Ton.cells ++ [.int .i64 (F ys[k]).note, .int .i64 (F ys[k]).start, .int .i64 (F ys[k]).len] := by
  rw [List.flatMap_append, map_snoc ys F k hk, List.flatMap_append, List.append_assoc]

set_option maxHeartbeats 2000000 in
theorem joined_any (va la vb lb : Value) (x y : TunD) (b : Int) (w : World) (hx : Tun w va la x) (hy : Tun w vb lb y) (nx : x.name.size ≤ maxLen) (gx : validTunB x = true) (gy : validTunB y = true) (h0 : 0 ≤ b) (h1 : b ≤ 100000) :
    Calls Try.prog 72 #[va, vb, .int .i64 b] w fun e w' => ∃ v', e = .returned (.tuple #[v', .int .i64 (joC x y b)]) ∧ OwnTun w.heap.size w'.heap.size w' v' (joV x y b) ∧ Below w.heap.size w w' := by
  obtain ⟨rfl, hla⟩ := hx
  obtain ⟨rfl, hlb⟩ := hy
  obtain ⟨a, ca, rfl, _⟩ := id hla
  obtain ⟨c, cc, rfl, _⟩ := id hlb
  have lx := tun_len gx
  have ly := tun_len gy
  have s1 : IntKind.i64.wrap ((x.tones.length : Int) + y.tones.length) = (x.tones.length : Int) + y.tones.length := IntWalk.i64_in _ (by omega)
  by_cases gf : joFits x y
  · obtain ⟨e1, e2⟩ := jo_yes (b := b) gf
    have d0 : decide (128 < (x.tones.length : Int) + y.tones.length) = false := by unfold joFits at gf; simp; omega
    have E1 := Lib.hid e1; have E2 := Lib.hid e2; have GF := Lib.hid gf; have GX := Lib.hid gx; have GY := Lib.hid gy; clear e1 e2 gf gx gy
    go_enter Try.func72, Try.ntmps72
    go_wp2_with fail
    refine (cloneTon_any _ x.tones _ (hla.mono (by (repeat (first | with_reducible exact Below.refl _ _ | with_reducible exact hbw | (with_reducible refine Below.setCell ?_ ?_ _; rotate_left; · first | exact Nat.le_refl _ | omega | (simp; done) | (simp; omega)) | (with_reducible refine Below.alloc ?_ ?_ _; rotate_left; · first | exact Nat.le_refl _ | omega | (simp; done) | (simp; omega)) | with_reducible refine below_drewN ?_ _ | with_reducible refine Below.drew ?_)))) (by omega)).mono ?_
    rintro e w1 ⟨v1, rfl, ho1, hb1⟩
    obtain ⟨a1, c1, rfl⟩ := ho1.form
    have hz1 : w.heap.size + 3 ≤ w1.heap.size := by have := hb1.size; simp at this; omega
    have hbw1 : Below w.heap.size w w1 := Below.trans (by (repeat (first | with_reducible exact Below.refl _ _ | with_reducible exact hbw | (with_reducible refine Below.setCell ?_ ?_ _; rotate_left; · first | exact Nat.le_refl _ | omega | (simp; done) | (simp; omega)) | (with_reducible refine Below.alloc ?_ ?_ _; rotate_left; · first | exact Nat.le_refl _ | omega | (simp; done) | (simp; omega)) | with_reducible refine below_drewN ?_ _ | with_reducible refine Below.drew ?_))) (hb1.mono (by simp <;> omega))
    have y0 : w1.cell? ⟨w.heap.size, 0, none⟩ = some (.string x.name) := cellB hb1 (by simp [go_sem])
    have y1 : w1.cell? ⟨w.heap.size + 1, 0, none⟩ = some (.string y.name) := cellB hb1 (by simp [go_sem])
    have y2 : w1.cell? ⟨w.heap.size + 1, 1, none⟩ = some (.slice c y.tones.length cc) := cellB hb1 (by simp [go_sem])
    have r0 : w1.cell? ⟨w.heap.size + 2, 0, none⟩ = some (.string ⟨#[]⟩) := cellB hb1 (by simp [go_sem])
    have r1 : w1.cell? ⟨w.heap.size + 2, 1, none⟩ = some (.slice none 0 0) := cellB hb1 (by simp [go_sem])
    have f0 : w1.frozen? ⟨w.heap.size + 2, 0, none⟩ = false := frozenL hb1 (by simp) (by simp [go_sem])
    have f1 : w1.frozen? ⟨w.heap.size + 2, 1, none⟩ = false := frozenL hb1 (by simp) (by simp [go_sem])
    have ho1' : w1.ownsRow (w.heap.size + 3) 55 3 (.slice a1 x.tones.length c1) x.tones.length (x.tones.flatMap Ton.cells) := owns_base ho1.1 (by simp)
    have HO1 := Lib.hid ho1'; have HB1 := Lib.hid hbw1
    clear hb1 ho1 ho1' hbw1
    go_wp2_with fail
    go_loopw [8, 26, 10] (fun tv i _ wr => ∃ (k : Nat) (a' : Option Addr) (cap' : Nat), k ≤ y.tones.length ∧ i = .int .i64 (k : Int) ∧ tv = .slice a' (x.tones.length + k) cap' ∧ wr.ownsRow (w.heap.size + 3) 55 3 (.slice a' (x.tones.length + k) cap') (x.tones.length + k) ((x.tones ++ (y.tones.map (shF b)).take k).flatMap Ton.cells) ∧ Below w.heap.size w wr ∧ w.heap.size + 3 ≤ wr.heap.size ∧ wr.cell? ⟨w.heap.size, 0, none⟩ = some (.string x.name) ∧ wr.cell? ⟨w.heap.size + 2, 0, none⟩ = some (.string ⟨#[]⟩) ∧ wr.cell? ⟨w.heap.size + 2, 1, none⟩ = some (.slice none 0 0) ∧ wr.frozen? ⟨w.heap.size + 2, 0, none⟩ = false ∧ wr.frozen? ⟨w.heap.size + 2, 1, none⟩ = false) (fun tv i _ _ => y.tones.length - (intOf i).toNat)
    case atStart => exact ⟨0, a1, c1, Nat.zero_le _, by go_num, rfl, by simpa using HO1.out, HB1.out, hz1, y0, r0, r1, f0, f1⟩
    case round =>
      clear y0 y1 y2 r0 r1 f0 f1
      obtain ⟨k, a', cap', hk, rfl, rfl, ho, hb, hz, y0, r0, r1, f0, f1⟩ := hrel
      have HO := Lib.hid ho; clear ho
      by_cases hlt : k < y.tones.length
      · obtain ⟨b1, o1, rfl, hB1, c0, c1', c2⟩ := (hlb.mono hb).at hlt
        have l1 : b1 < wr.heap.size + 1 := by omega
        have ft := (tun_tone GY.out hlt).fits
        have q1 : IntKind.i64.wrap (y.tones[k].start + b) = y.tones[k].start + b := IntWalk.i64_in _ (by omega)
        have HB := Lib.hid hb
        clear ft hb
        go_wp2_with (at_builtin; refine append_one_at rfl _ _ 27 rfl (w.heap.size + 3) 55 _ 3 24 Try.underlying27 info_Tone rfl (by decide) _ (x.tones.length + k) _ rfl (owns_mono HO.out (by (repeat (first | with_reducible exact Below.refl _ _ | with_reducible exact hbw | (with_reducible refine Below.setCell ?_ ?_ _; rotate_left; · first | exact Nat.le_refl _ | omega | (simp; done) | (simp; omega)) | (with_reducible refine Below.alloc ?_ ?_ _; rotate_left; · first | exact Nat.le_refl _ | omega | (simp; done) | (simp; omega)) | with_reducible refine below_drewN ?_ _ | with_reducible refine Below.drew ?_)))) [.int .i64 (shF b y.tones[k]).note, .int .i64 (shF b y.tones[k]).start, .int .i64 (shF b y.tones[k]).len] rfl (by intro u hu; simp at hu; rcases hu with rfl | rfl | rfl <;> rfl) (wr.heap.size + 1) (by simp) rfl (by omega) (by decide) (by simp; omega) ?_)
        intro a5 cap5 w5 ho5 hg5 hb5 hat5
        have hst : Below (w.heap.size + 3) wr w5 := Below.trans (Below.mono (B := wr.heap.size) (by (repeat (first | with_reducible exact Below.refl _ _ | with_reducible exact hbw | (with_reducible refine Below.setCell ?_ ?_ _; rotate_left; · first | exact Nat.le_refl _ | omega | (simp; done) | (simp; omega)) | (with_reducible refine Below.alloc ?_ ?_ _; rotate_left; · first | exact Nat.le_refl _ | omega | (simp; done) | (simp; omega)) | with_reducible refine below_drewN ?_ _ | with_reducible refine Below.drew ?_))) hz) hb5
        have hz5 := hst.size
        have y0 := cellL hst (by simp) y0
        have r0 := cellL hst (by simp) r0
        have r1 := cellL hst (by simp) r1
        have f0 := frozenL hst (by simp) f0
        have f1 := frozenL hst (by simp) f1
        have HB5 := Lib.hid (HB.out.trans (hst.mono (by omega)))
        have HO5 := Lib.hid ho5
        clear hst hb5 ho5 hg5 hat5
        go_wp2
        go_roundw
        case rel => exact ⟨k + 1, a5, cap5, by omega, by go_num, rfl, by rw [List.flatMap_append, map_snoc _ (shF b) k hlt]; exact HO5.out, HB5.out, by omega, y0, r0, r1, f0, f1⟩
        case measure => simp [intOf] <;> omega
      · obtain rfl : k = y.tones.length := by omega
        have e0 : (y.tones.map (shF b)).take y.tones.length = y.tones.map (shF b) := List.take_of_length_le (by simp)
        have ho := HO.out
        rw [e0] at ho
        have HO2 := Lib.hid ho; have HB := Lib.hid hb; clear ho e0 hb
        go_wp2_with fail
        refine (tuneOf_any (w.heap.size + 3) (x.tones.length + y.tones.length) x.name _ (joL x y b) _ (OwnRow.mk' HO2.out) (by unfold joL; simp) (by omega) nx hz).mono ?_
        rintro e w1' ⟨v1, rfl, ho1, ht⟩
        obtain ⟨c1', cap1, rfl⟩ := ho1.form
        have hz1 := ht.size
        have r0 := cellT ht r0 (Or.inl (by simp))
        have r1 := cellT ht r1 (Or.inl (by simp))
        have f0 := touch_frozen ht (by simp; omega) (Or.inl (by simp)) f0
        have f1 := touch_frozen ht (by simp; omega) (Or.inl (by simp)) f1
        have hb1 : Below w.heap.size w w1' := ht.below (b := w.heap.size) HB.out (by omega) HB.out.size
        have HO1 := Lib.hid ho1; have HB1 := Lib.hid hb1
        have hz3 : w.heap.size + 2 < w1'.heap.size := by omega
        clear ho1 ht hb1
        go_wp2
        refine bodyPost_ret (v := .tuple #[.agg #[.string (toV x.name (joL x y b)).name, .slice c1' (toV x.name (joL x y b)).tones.length cap1], .int .i64 (toC x.name (joL x y b))]) (by simp [results, Try.results72, go_sem, hz3, r0, r1]) rfl ⟨_, by rw [E2.out], ?_, ?_⟩
        · rw [E1.out]
          refine (HO1.out.touch (B' := w.heap.size + 2) (E' := w.heap.size + 3) ?_ (Or.inr (Nat.le_refl _))).wide (by omega) (by simp)
          have htc := Touch.refl (w.heap.size + 2) (w.heap.size + 3) w1'
          (repeat (first | with_reducible exact Touch.refl _ _ _ | with_reducible exact htc | (with_reducible refine Touch.setCell ?_ ?_ _; rotate_left; · (simp only; omega)) | (with_reducible refine Touch.setNew ?_ ?_ _; rotate_left; · (first | (simp only; omega) | (simp; done) | (simp; omega))) | with_reducible refine Touch.alloc ?_ _ | with_reducible refine Touch.drewN ?_ _ | with_reducible refine Touch.drew ?_))
        · have hbw := HB1.out
          (repeat (first | with_reducible exact Below.refl _ _ | with_reducible exact hbw | (with_reducible refine Below.setCell ?_ ?_ _; rotate_left; · first | exact Nat.le_refl _ | omega | (simp; done) | (simp; omega)) | (with_reducible refine Below.alloc ?_ ?_ _; rotate_left; · first | exact Nat.le_refl _ | omega | (simp; done) | (simp; omega)) | with_reducible refine below_drewN ?_ _ | with_reducible refine Below.drew ?_))
  · obtain ⟨e1, e2⟩ := jo_no (b := b) gf
    have d0 : decide (128 < (x.tones.length : Int) + y.tones.length) = true := by unfold joFits at gf; simp; omega
    have E1 := Lib.hid e1; have E2 := Lib.hid e2; clear e1 e2 gf
    go_enter Try.func72, Try.ntmps72
    go_wp2
    refine bodyPost_ret (v := .tuple #[.agg #[.string ⟨#[]⟩, .slice none 0 0], .int .i64 5]) (by simp [results, Try.results72, go_sem]) rfl ⟨_, by rw [E2.out], by rw [E1.out]; exact ownT_zero _ _ _, ?_⟩
    (repeat (first | with_reducible exact Below.refl _ _ | with_reducible exact hbw | (with_reducible refine Below.setCell ?_ ?_ _; rotate_left; · first | exact Nat.le_refl _ | omega | (simp; done) | (simp; omega)) | (with_reducible refine Below.alloc ?_ ?_ _; rotate_left; · first | exact Nat.le_refl _ | omega | (simp; done) | (simp; omega)) | with_reducible refine below_drewN ?_ _ | with_reducible refine Below.drew ?_))

end Go.Proofs.Ytfnbjegbaobpnaa
