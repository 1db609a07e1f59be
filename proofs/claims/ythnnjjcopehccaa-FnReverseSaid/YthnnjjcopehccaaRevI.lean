/- Contract of impl.ReverseTune. -/
import Derived.Test.YthnnjjcopehccaaTransI
import Derived.Test.YthnnjjcopehccaaTuneEnd
set_option linter.unusedSimpArgs false
set_option linter.unnecessarySimpa false
set_option linter.unusedVariables false
set_option maxRecDepth 100000
namespace Go.Proofs.Ythnnjjcopehccaa
open Go.RowKit

def revF (e : Int) (x : Ton) : Ton := ⟨x.note, e - x.start - x.len, x.len⟩

theorem enters_rev (args : Array Value) (w : World) : Sem.run Try.prog (callFunc 12 args) w = .ok (.enter 12 args) w := by
  first | rfl | (simp [callFunc, go_sem]; done) | (go_simp; done)

set_option maxHeartbeats 400000 in
theorem rev1_any (x : Ton) (c : Nat) (e : Int) (w : World) (hc : w.cell? ⟨c, 0, none⟩ = some (.int .i64 e)) (h0 : 0 ≤ e) (h1 : e ≤ 20000) (h2 : 0 ≤ x.start) (h3 : x.start ≤ 20000) (h4 : 0 ≤ x.len) (h5 : x.len ≤ 20000) :
    Calls Try.prog 12 #[.agg #[.int .i64 x.note, .int .i64 x.start, .int .i64 x.len], .pointer (some ⟨c, 0, none⟩)] w fun e' w' => e' = .returned (.agg #[.int .i64 (revF e x).note, .int .i64 (revF e x).start, .int .i64 (revF e x).len]) ∧ Below w.heap.size w w' := by
  have hlt := World.block_lt_of_cell? w _ hc
  simp only at hlt
  have l1 : c < w.heap.size + 1 := by omega
  have l2 : c < w.heap.size + 1 + 1 := by omega
  have q1 : IntKind.i64.wrap (e - x.start) = e - x.start := IntWalk.i64_in _ (by omega)
  have q2 : IntKind.i64.wrap (e - x.start - x.len) = e - x.start - x.len := IntWalk.i64_in _ (by omega)
  clear h0 h1 h2 h3 h4 h5
  go_enter Try.func12, Try.ntmps12
  go_wp2
  refine bodyPost_ret (v := .agg #[.int .i64 x.note, .int .i64 (e - x.start - x.len), .int .i64 x.len]) (by simp [results, Try.results12, go_sem]) rfl ⟨rfl, ?_⟩
  (repeat (first | with_reducible exact Below.refl _ _ | with_reducible exact hbw | (with_reducible refine Below.setCell ?_ ?_ _; rotate_left; · first | exact Nat.le_refl _ | omega | (simp; done) | (simp; omega)) | (with_reducible refine Below.alloc ?_ ?_ _; rotate_left; · first | exact Nat.le_refl _ | omega | (simp; done) | (simp; omega)) | with_reducible refine below_drewN ?_ _ | with_reducible refine Below.drew ?_))

noncomputable def revV (x : TunD) : TunD := if validTunB x = true then toV x.name (x.tones.map (revF (endOf x.tones))) else ⟨.empty, []⟩
noncomputable def revC (x : TunD) : Int := if validTunB x = true then toC x.name (x.tones.map (revF (endOf x.tones))) else 1
theorem rev_yes {x : TunD} (h : validTunB x = true) : revV x = toV x.name (x.tones.map (revF (endOf x.tones))) ∧ revC x = toC x.name (x.tones.map (revF (endOf x.tones))) := by unfold revV revC; rw [if_pos h, if_pos h]; exact ⟨rfl, rfl⟩
theorem rev_inv {x : TunD} (h : ¬ validTunB x = true) : revV x = ⟨.empty, []⟩ ∧ revC x = 1 := by unfold revV revC; rw [if_neg h, if_neg h]; exact ⟨rfl, rfl⟩
theorem endOf_bd {xs : List Ton} (h : TonesOk xs) : 0 ≤ endOf xs ∧ endOf xs ≤ 20000 := by
  have : ∀ k, k ≤ xs.length → 0 ≤ endOf (xs.take k) ∧ endOf (xs.take k) ≤ 20000 := by
    intro k
    induction k with
    | zero => intro _; rw [endOf_zero]; omega
    | succ k ih =>
      intro hk
      have h1 := ih (by omega)
      rw [endOf_step xs (by omega)]
      have h2 := (h k (by omega) (by omega)).1.fits
      omega
  have h1 := this xs.length (Nat.le_refl _)
  rwa [List.take_length] at h1

set_option maxHeartbeats 1000000 in
theorem implReverseTune_any (v : Value) (x : TunD) (w : World) (h : RdTun w v x) (ok : x.ok) (hs : x.tones.length ≤ 1048576) :
    Calls Try.prog 5 #[v] w fun e w' => ∃ v', e = .returned (.tuple #[v', .int .i64 (revC x)]) ∧ OwnTun w.heap.size w'.heap.size w' v' (revV x) ∧ Below w.heap.size w w' := by
  obtain ⟨lv, rfl, hlv⟩ := h
  obtain ⟨a, ca, rfl, hca, hcm, _⟩ := id hlv
  have hn := ok.1
  by_cases g : validTunB x = true
  · obtain ⟨e1, e2⟩ := rev_yes g
    have TK := Lib.hid (validTunB_iff.1 g).tones
    have E1 := Lib.hid e1; have E2 := Lib.hid e2; have G := Lib.hid g; clear e1 e2 g
    go_enter Try.func5, Try.ntmps5
    go_wp2_with fail
    refine (implValidTun_any _ (.slice a x.tones.length ca) x _ ⟨rfl, hlv.mono (by (repeat (first | with_reducible exact Below.refl _ _ | with_reducible exact hbw | (with_reducible refine Below.setCell ?_ ?_ _; rotate_left; · first | exact Nat.le_refl _ | omega | (simp; done) | (simp; omega)) | (with_reducible refine Below.alloc ?_ ?_ _; rotate_left; · first | exact Nat.le_refl _ | omega | (simp; done) | (simp; omega)) | with_reducible refine below_drewN ?_ _ | with_reducible refine Below.drew ?_)))⟩ hn).mono ?_
    rintro e w1 ⟨rfl, hb⟩
    have HB := Lib.hid (show Below w.heap.size w w1 from Below.trans (by (repeat (first | with_reducible exact Below.refl _ _ | with_reducible exact hbw | (with_reducible refine Below.setCell ?_ ?_ _; rotate_left; · first | exact Nat.le_refl _ | omega | (simp; done) | (simp; omega)) | (with_reducible refine Below.alloc ?_ ?_ _; rotate_left; · first | exact Nat.le_refl _ | omega | (simp; done) | (simp; omega)) | with_reducible refine below_drewN ?_ _ | with_reducible refine Below.drew ?_))) (hb.mono (by simp <;> omega)))
    have hz : w.heap.size + 2 ≤ w1.heap.size := by have := hb.size; simp at this; omega
    have z0 : w1.cell? ⟨w.heap.size, 0, none⟩ = some (.string x.name) := cellB hb (by simp [go_sem])
    have z1 : w1.cell? ⟨w.heap.size, 1, none⟩ = some (.slice a x.tones.length ca) := cellB hb (by simp [go_sem])
    have r0 : w1.cell? ⟨w.heap.size + 1, 0, none⟩ = some (.string ⟨#[]⟩) := cellB hb (by simp [go_sem])
    have r1 : w1.cell? ⟨w.heap.size + 1, 1, none⟩ = some (.slice none 0 0) := cellB hb (by simp [go_sem])
    have f0 : w1.frozen? ⟨w.heap.size + 1, 0, none⟩ = false := frozenL hb (by simp) (by simp [go_sem])
    have f1 : w1.frozen? ⟨w.heap.size + 1, 1, none⟩ = false := frozenL hb (by simp) (by simp [go_sem])
    have hz0 : w.heap.size < w1.heap.size := by omega
    have hz2 : w.heap.size + 1 < w1.heap.size := by omega
    clear hb
    rw [G.out]
    go_wp2_with fail
    refine (tuneEnd_any _ (.slice a x.tones.length ca) x _ ⟨rfl, hlv.mono HB.out⟩ TK.out).mono ?_
    rintro e w2 ⟨rfl, hb2⟩
    have hz3 := hb2.size
    have z0 := cellB hb2 z0
    have z1 := cellB hb2 z1
    have r0 := cellB hb2 r0
    have r1 := cellB hb2 r1
    have f0 := frozenL hb2 (by simp; omega) f0
    have f1 := frozenL hb2 (by simp; omega) f1
    have HB2 := Lib.hid (HB.out.trans (hb2.mono HB.out.size))
    have hz4 : w.heap.size < w2.heap.size := by omega
    have hz5 : w.heap.size + 1 < w2.heap.size := by omega
    have hz6 : w.heap.size < w2.heap.size + 1 := by omega
    have hz7 : w.heap.size + 1 < w2.heap.size + 1 := by omega
    obtain ⟨en, hen⟩ : ∃ en, en = endOf x.tones := ⟨_, rfl⟩
    have EN := Lib.hid hen
    rw [← hen]
    clear hb2 hen
    go_wp2_with fail
    refine (mapped1_any 12 (.pointer (some ⟨w2.heap.size, 0, none⟩)) (revF en) _ (.slice a x.tones.length ca) x _ ⟨rfl, hlv.mono (by have hbw := HB2.out; (repeat (first | with_reducible exact Below.refl _ _ | with_reducible exact hbw | (with_reducible refine Below.setCell ?_ ?_ _; rotate_left; · first | exact Nat.le_refl _ | omega | (simp; done) | (simp; omega)) | (with_reducible refine Below.alloc ?_ ?_ _; rotate_left; · first | exact Nat.le_refl _ | omega | (simp; done) | (simp; omega)) | with_reducible refine below_drewN ?_ _ | with_reducible refine Below.drew ?_)))⟩ hn (Nat.le_trans (tun_len G.out) (by decide)) enters_rev (fun k hk w3 hb3 => rev1_any x.tones[k] _ en w3 (cellB hb3 (by simp [go_sem])) (by rw [EN.out]; exact (endOf_bd TK.out).1) (by rw [EN.out]; exact (endOf_bd TK.out).2) (by have := (TK.out k hk hk).1.fits; omega) (by have := (TK.out k hk hk).1.fits; omega) (by have := (TK.out k hk hk).1.fits; omega) (by have := (TK.out k hk hk).1.fits; omega))).mono ?_
    rintro e w3 ⟨v3, rfl, ho3, hb3⟩
    obtain ⟨c1, cap1, rfl⟩ := ho3.form
    have hb4 : Below w2.heap.size w2 w3 := Below.trans (by (repeat (first | with_reducible exact Below.refl _ _ | with_reducible exact hbw | (with_reducible refine Below.setCell ?_ ?_ _; rotate_left; · first | exact Nat.le_refl _ | omega | (simp; done) | (simp; omega)) | (with_reducible refine Below.alloc ?_ ?_ _; rotate_left; · first | exact Nat.le_refl _ | omega | (simp; done) | (simp; omega)) | with_reducible refine below_drewN ?_ _ | with_reducible refine Below.drew ?_))) (hb3.mono (by simp))
    have hz8 := hb4.size
    have r0 := cellB hb4 r0
    have r1 := cellB hb4 r1
    have f0 := frozenL hb4 (by simp; omega) f0
    have f1 := frozenL hb4 (by simp; omega) f1
    have hz9 : w.heap.size + 1 < w3.heap.size := by omega
    have HB3 := Lib.hid (HB2.out.trans (hb4.mono HB2.out.size))
    have ho4 := ho3.wide (B' := w2.heap.size) (E' := w3.heap.size) (by simp) (Nat.le_refl _)
    have HO3 := Lib.hid ho4
    clear hb3 hb4 ho3 ho4 z0 z1
    go_wp2
    refine bodyPost_ret (v := .tuple #[.agg #[.string (toV x.name (x.tones.map (revF en))).name, .slice c1 (toV x.name (x.tones.map (revF en))).tones.length cap1], .int .i64 (toC x.name (x.tones.map (revF en)))]) (by simp [results, Try.results5, go_sem, hz9, r0, r1]) rfl ⟨_, by rw [E2.out, EN.out], ?_, ?_⟩
    · rw [E1.out, ← EN.out]
      refine (HO3.out.touch (B' := w.heap.size + 1) (E' := w.heap.size + 2) ?_ (Or.inr (by omega))).wide (by omega) (by simp)
      have htc := Touch.refl (w.heap.size + 1) (w.heap.size + 2) w3
      (repeat (first | with_reducible exact Touch.refl _ _ _ | with_reducible exact htc | (with_reducible refine Touch.setCell ?_ ?_ _; rotate_left; · (simp only; omega)) | (with_reducible refine Touch.setNew ?_ ?_ _; rotate_left; · (first | (simp only; omega) | (simp; done) | (simp; omega))) | with_reducible refine Touch.alloc ?_ _ | with_reducible refine Touch.drewN ?_ _ | with_reducible refine Touch.drew ?_))
    · have hbw := HB3.out
      (repeat (first | with_reducible exact Below.refl _ _ | with_reducible exact hbw | (with_reducible refine Below.setCell ?_ ?_ _; rotate_left; · first | exact Nat.le_refl _ | omega | (simp; done) | (simp; omega)) | (with_reducible refine Below.alloc ?_ ?_ _; rotate_left; · first | exact Nat.le_refl _ | omega | (simp; done) | (simp; omega)) | with_reducible refine below_drewN ?_ _ | with_reducible refine Below.drew ?_))
  · obtain ⟨e1, e2⟩ := rev_inv g
    have E1 := Lib.hid e1; have E2 := Lib.hid e2; have G := Lib.hid (show validTunB x = false by simpa using g); clear e1 e2 g
    go_enter Try.func5, Try.ntmps5
    go_wp2_with fail
    refine (implValidTun_any _ (.slice a x.tones.length ca) x _ ⟨rfl, hlv.mono (by (repeat (first | with_reducible exact Below.refl _ _ | with_reducible exact hbw | (with_reducible refine Below.setCell ?_ ?_ _; rotate_left; · first | exact Nat.le_refl _ | omega | (simp; done) | (simp; omega)) | (with_reducible refine Below.alloc ?_ ?_ _; rotate_left; · first | exact Nat.le_refl _ | omega | (simp; done) | (simp; omega)) | with_reducible refine below_drewN ?_ _ | with_reducible refine Below.drew ?_)))⟩ hn).mono ?_
    rintro e w1 ⟨rfl, hb⟩
    have HB := Lib.hid (show Below w.heap.size w w1 from Below.trans (by (repeat (first | with_reducible exact Below.refl _ _ | with_reducible exact hbw | (with_reducible refine Below.setCell ?_ ?_ _; rotate_left; · first | exact Nat.le_refl _ | omega | (simp; done) | (simp; omega)) | (with_reducible refine Below.alloc ?_ ?_ _; rotate_left; · first | exact Nat.le_refl _ | omega | (simp; done) | (simp; omega)) | with_reducible refine below_drewN ?_ _ | with_reducible refine Below.drew ?_))) (hb.mono (by simp <;> omega)))
    have hz : w.heap.size + 2 ≤ w1.heap.size := by have := hb.size; simp at this; omega
    have z0 : w1.cell? ⟨w.heap.size, 0, none⟩ = some (.string x.name) := cellB hb (by simp [go_sem])
    have z1 : w1.cell? ⟨w.heap.size, 1, none⟩ = some (.slice a x.tones.length ca) := cellB hb (by simp [go_sem])
    have r0 : w1.cell? ⟨w.heap.size + 1, 0, none⟩ = some (.string ⟨#[]⟩) := cellB hb (by simp [go_sem])
    have r1 : w1.cell? ⟨w.heap.size + 1, 1, none⟩ = some (.slice none 0 0) := cellB hb (by simp [go_sem])
    have f0 : w1.frozen? ⟨w.heap.size + 1, 0, none⟩ = false := frozenL hb (by simp) (by simp [go_sem])
    have f1 : w1.frozen? ⟨w.heap.size + 1, 1, none⟩ = false := frozenL hb (by simp) (by simp [go_sem])
    have hz0 : w.heap.size < w1.heap.size := by omega
    have hz2 : w.heap.size + 1 < w1.heap.size := by omega
    clear hb
    rw [G.out]
    go_wp2
    refine bodyPost_ret (v := .tuple #[.agg #[.string ⟨#[]⟩, .slice none 0 0], .int .i64 1]) (by simp [results, Try.results5, go_sem, hz2, r0, r1]) rfl ⟨_, by rw [E2.out], by rw [E1.out]; exact ownT_zero _ _ _, ?_⟩
    have hbw := HB.out
    (repeat (first | with_reducible exact Below.refl _ _ | with_reducible exact hbw | (with_reducible refine Below.setCell ?_ ?_ _; rotate_left; · first | exact Nat.le_refl _ | omega | (simp; done) | (simp; omega)) | (with_reducible refine Below.alloc ?_ ?_ _; rotate_left; · first | exact Nat.le_refl _ | omega | (simp; done) | (simp; omega)) | with_reducible refine below_drewN ?_ _ | with_reducible refine Below.drew ?_))

end Go.Proofs.Ythnnjjcopehccaa
