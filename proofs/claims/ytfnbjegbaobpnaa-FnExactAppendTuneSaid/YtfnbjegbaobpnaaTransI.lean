/- Contract of impl.TransposeTune. -/
import Derived.Test.YtfnbjegbaobpnaaMapped
import Derived.Test.YtfnbjegbaobpnaaWithin
set_option linter.unusedSimpArgs false
set_option linter.unnecessarySimpa false
set_option linter.unusedVariables false
set_option maxRecDepth 100000
namespace Go.Proofs.Ytfnbjegbaobpnaa
open Go.RowKit

def trF (by_ : Int) (x : Ton) : Ton := ⟨x.note + by_, x.start, x.len⟩

set_option maxHeartbeats 400000 in
theorem trans1_any (x : Ton) (c : Nat) (by_ : Int) (w : World) (hc : w.cell? ⟨c, 0, none⟩ = some (.int .i64 by_)) (h1 : -1000000 ≤ x.note + by_) (h2 : x.note + by_ ≤ 1000000) :
    Calls Try.prog 68 #[.agg #[.int .i64 x.note, .int .i64 x.start, .int .i64 x.len], .pointer (some ⟨c, 0, none⟩)] w fun e w' => e = .returned (.agg #[.int .i64 (trF by_ x).note, .int .i64 (trF by_ x).start, .int .i64 (trF by_ x).len]) ∧ Below w.heap.size w w' := by
  have hlt := World.block_lt_of_cell? w _ hc
  simp only at hlt
  have l1 : c < w.heap.size + 1 := by omega
  have l2 : c < w.heap.size + 1 + 1 := by omega
  go_enter Try.func68, Try.ntmps68
  go_wp2
  refine bodyPost_ret (v := .agg #[.int .i64 (x.note + by_), .int .i64 x.start, .int .i64 x.len]) (by simp [results, Try.results68, go_sem]) rfl ⟨rfl, ?_⟩
  (repeat (first | with_reducible exact Below.refl _ _ | with_reducible exact hbw | (with_reducible refine Below.setCell ?_ ?_ _; rotate_left; · first | exact Nat.le_refl _ | omega | (simp; done) | (simp; omega)) | (with_reducible refine Below.alloc ?_ ?_ _; rotate_left; · first | exact Nat.le_refl _ | omega | (simp; done) | (simp; omega)) | with_reducible refine below_drewN ?_ _ | with_reducible refine Below.drew ?_))

def trIn (b : Int) : Prop := -127 ≤ b ∧ b ≤ 127
instance (b : Int) : Decidable (trIn b) := by unfold trIn; infer_instance
noncomputable def trV (x : TunD) (b : Int) : TunD := if validTunB x = true then if trIn b then toV x.name (x.tones.map (trF b)) else ⟨.empty, []⟩ else ⟨.empty, []⟩
noncomputable def trC (x : TunD) (b : Int) : Int := if validTunB x = true then if trIn b then toC x.name (x.tones.map (trF b)) else 2 else 1
theorem tr_yes {x : TunD} {b : Int} (h : validTunB x = true) (g : trIn b) : trV x b = toV x.name (x.tones.map (trF b)) ∧ trC x b = toC x.name (x.tones.map (trF b)) := by unfold trV trC; rw [if_pos h, if_pos h, if_pos g, if_pos g]; exact ⟨rfl, rfl⟩
theorem tr_rng {x : TunD} {b : Int} (h : validTunB x = true) (g : ¬ trIn b) : trV x b = ⟨.empty, []⟩ ∧ trC x b = 2 := by unfold trV trC; rw [if_pos h, if_pos h, if_neg g, if_neg g]; exact ⟨rfl, rfl⟩
theorem tr_inv {x : TunD} {b : Int} (h : ¬ validTunB x = true) : trV x b = ⟨.empty, []⟩ ∧ trC x b = 1 := by unfold trV trC; rw [if_neg h, if_neg h]; exact ⟨rfl, rfl⟩
theorem tun_len {x : TunD} (h : validTunB x = true) : x.tones.length ≤ 128 := by
  have h1 : TunOk x := by simpa [validTunB] using h
  exact h1.len
theorem tun_tone {x : TunD} (h : validTunB x = true) {k : Nat} (hk : k < x.tones.length) : TonOk x.tones[k] := by
  have h1 : TunOk x := by simpa [validTunB] using h
  exact (h1.tones k hk hk).1

set_option maxHeartbeats 1000000 in
theorem implTransposeTune_any (v : Value) (x : TunD) (b : Int) (w : World) (h : RdTun w v x) (ok : x.ok) (hs : x.tones.length ≤ 1048576) (_ : I64 b) :
    Calls Try.prog 35 #[v, .int .i64 b] w fun e w' => ∃ v', e = .returned (.tuple #[v', .int .i64 (trC x b)]) ∧ OwnTun w.heap.size w'.heap.size w' v' (trV x b) ∧ Below w.heap.size w w' := by
  obtain ⟨lv, rfl, hlv⟩ := h
  obtain ⟨a, ca, rfl, hca, hcm, _⟩ := id hlv
  have hn := ok.1
  by_cases g : validTunB x = true
  · by_cases g2 : trIn b
    · obtain ⟨e1, e2⟩ := tr_yes g g2
      have E1 := Lib.hid e1; have E2 := Lib.hid e2; have G := Lib.hid g; have G2 := Lib.hid g2; clear e1 e2 g g2
      go_enter Try.func35, Try.ntmps35
      go_wp2_with fail
      refine (implValidTun_any _ (.slice a x.tones.length ca) x _ ⟨rfl, hlv.mono (by (repeat (first | with_reducible exact Below.refl _ _ | with_reducible exact hbw | (with_reducible refine Below.setCell ?_ ?_ _; rotate_left; · first | exact Nat.le_refl _ | omega | (simp; done) | (simp; omega)) | (with_reducible refine Below.alloc ?_ ?_ _; rotate_left; · first | exact Nat.le_refl _ | omega | (simp; done) | (simp; omega)) | with_reducible refine below_drewN ?_ _ | with_reducible refine Below.drew ?_)))⟩ hn).mono ?_
      rintro e w1 ⟨rfl, hb⟩
      have HB := Lib.hid (show Below w.heap.size w w1 from Below.trans (by (repeat (first | with_reducible exact Below.refl _ _ | with_reducible exact hbw | (with_reducible refine Below.setCell ?_ ?_ _; rotate_left; · first | exact Nat.le_refl _ | omega | (simp; done) | (simp; omega)) | (with_reducible refine Below.alloc ?_ ?_ _; rotate_left; · first | exact Nat.le_refl _ | omega | (simp; done) | (simp; omega)) | with_reducible refine below_drewN ?_ _ | with_reducible refine Below.drew ?_))) (hb.mono (by simp <;> omega)))
      have hz : w.heap.size + 3 ≤ w1.heap.size := by have := hb.size; simp at this; omega
      have z0 : w1.cell? ⟨w.heap.size, 0, none⟩ = some (.string x.name) := cellB hb (by simp [go_sem])
      have z1 : w1.cell? ⟨w.heap.size, 1, none⟩ = some (.slice a x.tones.length ca) := cellB hb (by simp [go_sem])
      have z2 : w1.cell? ⟨w.heap.size + 1, 0, none⟩ = some (.int .i64 b) := cellB hb (by simp [go_sem])
      have r0 : w1.cell? ⟨w.heap.size + 2, 0, none⟩ = some (.string ⟨#[]⟩) := cellB hb (by simp [go_sem])
      have r1 : w1.cell? ⟨w.heap.size + 2, 1, none⟩ = some (.slice none 0 0) := cellB hb (by simp [go_sem])
      have f0 : w1.frozen? ⟨w.heap.size + 2, 0, none⟩ = false := frozenL hb (by simp) (by simp [go_sem])
      have f1 : w1.frozen? ⟨w.heap.size + 2, 1, none⟩ = false := frozenL hb (by simp) (by simp [go_sem])
      have hz0 : w.heap.size < w1.heap.size := by omega
      have hz1 : w.heap.size + 1 < w1.heap.size := by omega
      have hz2 : w.heap.size + 2 < w1.heap.size := by omega
      clear hb
      rw [G.out]
      go_wp2_with fail
      refine (within_any true _ _ _ _ (yesB G2.out)).mono ?_
      rintro e w2 ⟨rfl, rfl⟩
      go_wp2_with fail
      have hTo : Tun w2 (.agg #[.string x.name, .slice a x.tones.length ca]) (.slice a x.tones.length ca) x := ⟨rfl, hlv.mono HB.out⟩
      refine (mapped1_any 68 (.pointer (some ⟨w.heap.size + 1, 0, none⟩)) (trF b) _ _ x _ hTo hn (Nat.le_trans (tun_len G.out) (by decide)) enters_68 (fun k hk w3 hb3 => trans1_any x.tones[k] _ b w3 (cellB hb3 z2) (by have := tun_tone G.out hk; have h1 := this.note; have h2 := G2.out; unfold noteOk at h1; unfold trIn at h2; omega) (by have := tun_tone G.out hk; have h1 := this.note; have h2 := G2.out; unfold noteOk at h1; unfold trIn at h2; omega))).mono ?_
      rintro e w3 ⟨v3, rfl, ho3, hb3⟩
      obtain ⟨c1, cap1, rfl⟩ := ho3.form
      have hz5 := hb3.size
      have r0 := cellB hb3 r0
      have r1 := cellB hb3 r1
      have f0 := frozenL hb3 (by simp; omega) f0
      have f1 := frozenL hb3 (by simp; omega) f1
      have hz4 : w.heap.size + 2 < w3.heap.size := by omega
      have HB3 := Lib.hid (HB.out.trans (hb3.mono (by omega)))
      have HO3 := Lib.hid ho3
      clear hb3 ho3 z0 z1 z2
      go_wp2
      refine bodyPost_ret (v := .tuple #[.agg #[.string (toV x.name (x.tones.map (trF b))).name, .slice c1 (toV x.name (x.tones.map (trF b))).tones.length cap1], .int .i64 (toC x.name (x.tones.map (trF b)))]) (by simp [results, Try.results35, go_sem, hz4, r0, r1]) rfl ⟨_, by rw [E2.out], ?_, ?_⟩
      · rw [E1.out]
        refine (HO3.out.touch (B' := w.heap.size + 2) (E' := w.heap.size + 3) ?_ (Or.inr hz)).wide (by omega) (by simp)
        have htc := Touch.refl (w.heap.size + 2) (w.heap.size + 3) w3
        (repeat (first | with_reducible exact Touch.refl _ _ _ | with_reducible exact htc | (with_reducible refine Touch.setCell ?_ ?_ _; rotate_left; · (simp only; omega)) | (with_reducible refine Touch.setNew ?_ ?_ _; rotate_left; · (first | (simp only; omega) | (simp; done) | (simp; omega))) | with_reducible refine Touch.alloc ?_ _ | with_reducible refine Touch.drewN ?_ _ | with_reducible refine Touch.drew ?_))
      · have hbw := HB3.out
        (repeat (first | with_reducible exact Below.refl _ _ | with_reducible exact hbw | (with_reducible refine Below.setCell ?_ ?_ _; rotate_left; · first | exact Nat.le_refl _ | omega | (simp; done) | (simp; omega)) | (with_reducible refine Below.alloc ?_ ?_ _; rotate_left; · first | exact Nat.le_refl _ | omega | (simp; done) | (simp; omega)) | with_reducible refine below_drewN ?_ _ | with_reducible refine Below.drew ?_))
    · obtain ⟨e1, e2⟩ := tr_rng g g2
      have E1 := Lib.hid e1; have E2 := Lib.hid e2; have G := Lib.hid g; have G2 := Lib.hid g2; clear e1 e2 g g2
      go_enter Try.func35, Try.ntmps35
      go_wp2_with fail
      refine (implValidTun_any _ (.slice a x.tones.length ca) x _ ⟨rfl, hlv.mono (by (repeat (first | with_reducible exact Below.refl _ _ | with_reducible exact hbw | (with_reducible refine Below.setCell ?_ ?_ _; rotate_left; · first | exact Nat.le_refl _ | omega | (simp; done) | (simp; omega)) | (with_reducible refine Below.alloc ?_ ?_ _; rotate_left; · first | exact Nat.le_refl _ | omega | (simp; done) | (simp; omega)) | with_reducible refine below_drewN ?_ _ | with_reducible refine Below.drew ?_)))⟩ hn).mono ?_
      rintro e w1 ⟨rfl, hb⟩
      have HB := Lib.hid (show Below w.heap.size w w1 from Below.trans (by (repeat (first | with_reducible exact Below.refl _ _ | with_reducible exact hbw | (with_reducible refine Below.setCell ?_ ?_ _; rotate_left; · first | exact Nat.le_refl _ | omega | (simp; done) | (simp; omega)) | (with_reducible refine Below.alloc ?_ ?_ _; rotate_left; · first | exact Nat.le_refl _ | omega | (simp; done) | (simp; omega)) | with_reducible refine below_drewN ?_ _ | with_reducible refine Below.drew ?_))) (hb.mono (by simp <;> omega)))
      have hz : w.heap.size + 3 ≤ w1.heap.size := by have := hb.size; simp at this; omega
      have z0 : w1.cell? ⟨w.heap.size, 0, none⟩ = some (.string x.name) := cellB hb (by simp [go_sem])
      have z1 : w1.cell? ⟨w.heap.size, 1, none⟩ = some (.slice a x.tones.length ca) := cellB hb (by simp [go_sem])
      have z2 : w1.cell? ⟨w.heap.size + 1, 0, none⟩ = some (.int .i64 b) := cellB hb (by simp [go_sem])
      have r0 : w1.cell? ⟨w.heap.size + 2, 0, none⟩ = some (.string ⟨#[]⟩) := cellB hb (by simp [go_sem])
      have r1 : w1.cell? ⟨w.heap.size + 2, 1, none⟩ = some (.slice none 0 0) := cellB hb (by simp [go_sem])
      have f0 : w1.frozen? ⟨w.heap.size + 2, 0, none⟩ = false := frozenL hb (by simp) (by simp [go_sem])
      have f1 : w1.frozen? ⟨w.heap.size + 2, 1, none⟩ = false := frozenL hb (by simp) (by simp [go_sem])
      have hz0 : w.heap.size < w1.heap.size := by omega
      have hz1 : w.heap.size + 1 < w1.heap.size := by omega
      have hz2 : w.heap.size + 2 < w1.heap.size := by omega
      clear hb
      rw [G.out]
      go_wp2_with fail
      refine (within_any false _ _ _ _ (noB G2.out)).mono ?_
      rintro e w2 ⟨rfl, rfl⟩
      go_wp2
      refine bodyPost_ret (v := .tuple #[.agg #[.string ⟨#[]⟩, .slice none 0 0], .int .i64 2]) (by simp [results, Try.results35, go_sem, hz2, r0, r1]) rfl ⟨_, by rw [E2.out], by rw [E1.out]; exact ownT_zero _ _ _, ?_⟩
      have hbw := HB.out
      (repeat (first | with_reducible exact Below.refl _ _ | with_reducible exact hbw | (with_reducible refine Below.setCell ?_ ?_ _; rotate_left; · first | exact Nat.le_refl _ | omega | (simp; done) | (simp; omega)) | (with_reducible refine Below.alloc ?_ ?_ _; rotate_left; · first | exact Nat.le_refl _ | omega | (simp; done) | (simp; omega)) | with_reducible refine below_drewN ?_ _ | with_reducible refine Below.drew ?_))
  · obtain ⟨e1, e2⟩ := tr_inv (b := b) g
    have E1 := Lib.hid e1; have E2 := Lib.hid e2; have G := Lib.hid (show validTunB x = false by simpa using g); clear e1 e2 g
    go_enter Try.func35, Try.ntmps35
    go_wp2_with fail
    refine (implValidTun_any _ (.slice a x.tones.length ca) x _ ⟨rfl, hlv.mono (by (repeat (first | with_reducible exact Below.refl _ _ | with_reducible exact hbw | (with_reducible refine Below.setCell ?_ ?_ _; rotate_left; · first | exact Nat.le_refl _ | omega | (simp; done) | (simp; omega)) | (with_reducible refine Below.alloc ?_ ?_ _; rotate_left; · first | exact Nat.le_refl _ | omega | (simp; done) | (simp; omega)) | with_reducible refine below_drewN ?_ _ | with_reducible refine Below.drew ?_)))⟩ hn).mono ?_
    rintro e w1 ⟨rfl, hb⟩
    have HB := Lib.hid (show Below w.heap.size w w1 from Below.trans (by (repeat (first | with_reducible exact Below.refl _ _ | with_reducible exact hbw | (with_reducible refine Below.setCell ?_ ?_ _; rotate_left; · first | exact Nat.le_refl _ | omega | (simp; done) | (simp; omega)) | (with_reducible refine Below.alloc ?_ ?_ _; rotate_left; · first | exact Nat.le_refl _ | omega | (simp; done) | (simp; omega)) | with_reducible refine below_drewN ?_ _ | with_reducible refine Below.drew ?_))) (hb.mono (by simp <;> omega)))
    have hz : w.heap.size + 3 ≤ w1.heap.size := by have := hb.size; simp at this; omega
    have z0 : w1.cell? ⟨w.heap.size, 0, none⟩ = some (.string x.name) := cellB hb (by simp [go_sem])
    have z1 : w1.cell? ⟨w.heap.size, 1, none⟩ = some (.slice a x.tones.length ca) := cellB hb (by simp [go_sem])
    have z2 : w1.cell? ⟨w.heap.size + 1, 0, none⟩ = some (.int .i64 b) := cellB hb (by simp [go_sem])
    have r0 : w1.cell? ⟨w.heap.size + 2, 0, none⟩ = some (.string ⟨#[]⟩) := cellB hb (by simp [go_sem])
    have r1 : w1.cell? ⟨w.heap.size + 2, 1, none⟩ = some (.slice none 0 0) := cellB hb (by simp [go_sem])
    have f0 : w1.frozen? ⟨w.heap.size + 2, 0, none⟩ = false := frozenL hb (by simp) (by simp [go_sem])
    have f1 : w1.frozen? ⟨w.heap.size + 2, 1, none⟩ = false := frozenL hb (by simp) (by simp [go_sem])
    have hz0 : w.heap.size < w1.heap.size := by omega
    have hz1 : w.heap.size + 1 < w1.heap.size := by omega
    have hz2 : w.heap.size + 2 < w1.heap.size := by omega
    clear hb
    rw [G.out]
    go_wp2
    refine bodyPost_ret (v := .tuple #[.agg #[.string ⟨#[]⟩, .slice none 0 0], .int .i64 1]) (by simp [results, Try.results35, go_sem, hz2, r0, r1]) rfl ⟨_, by rw [E2.out], by rw [E1.out]; exact ownT_zero _ _ _, ?_⟩
    have hbw := HB.out
    (repeat (first | with_reducible exact Below.refl _ _ | with_reducible exact hbw | (with_reducible refine Below.setCell ?_ ?_ _; rotate_left; · first | exact Nat.le_refl _ | omega | (simp; done) | (simp; omega)) | (with_reducible refine Below.alloc ?_ ?_ _; rotate_left; · first | exact Nat.le_refl _ | omega | (simp; done) | (simp; omega)) | with_reducible refine below_drewN ?_ _ | with_reducible refine Below.drew ?_))

end Go.Proofs.Ytfnbjegbaobpnaa
