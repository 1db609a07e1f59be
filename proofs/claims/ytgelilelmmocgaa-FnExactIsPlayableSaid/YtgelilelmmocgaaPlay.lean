/- Contracts of IsPlayable of both packages. -/
import Derived.Test.YtgelilelmmocgaaFastS
set_option linter.unusedSimpArgs false
set_option linter.unnecessarySimpa false
set_option linter.unusedVariables false
set_option maxRecDepth 100000
namespace Go.Proofs.Ytgelilelmmocgaa
open Go.RowKit

structure PlayOk (x : TunD) (ns : List Int) (r : Int) : Prop where
  tun : validTunB x = true
  set : validSet ns = true
  rest : restIn r
  miss : missV x ns 0 = 0
  fast : fastL x.tones r x.tones.length = []
noncomputable instance (x : TunD) (ns : List Int) (r : Int) : Decidable (PlayOk x ns r) := Classical.propDecidable _
noncomputable def playB (x : TunD) (ns : List Int) (r : Int) : Bool := decide (PlayOk x ns r)
theorem play_no {x : TunD} {ns : List Int} {r : Int} (h : ¬ PlayOk x ns r) : playB x ns r = false := by simpa [playB] using h
theorem play_yes {x : TunD} {ns : List Int} {r : Int} (h : PlayOk x ns r) : playB x ns r = true := by simpa [playB] using h
theorem shift0 : shiftIn 0 := by unfold shiftIn; omega
theorem len_zero {xs : List Int} : ((xs.length : Int) == 0) = decide (xs = []) := by
  cases xs with
  | nil => simp
  | cons a l => simp; omega

set_option maxHeartbeats 2000000 in
theorem specIsPlayable_any (v : Value) (x : TunD) (v2 : Value) (ns : List Int) (r : Int) (w : World) (h : RdTun w v x) (ok : x.ok) (_ : x.tones.length ≤ 1048576) (hn : RdInts w v2 ns) (_ : ∀ x ∈ ns, I64 x) (_ : ns.length ≤ 1048576) (_ : I64 r) :
    Calls Try.prog 42 #[v, v2, .int .i64 r] w fun e w' => e = .returned (.bool (playB x ns r)) ∧ Below w.heap.size w w' := by
  obtain ⟨lv, rfl, hlv⟩ := h
  have hn : Ints w v2 ns := hn
  obtain ⟨a1, cs1, rfl, _, _, _⟩ := id hn
  by_cases ga : askC x ns 0 = 0
  rotate_left
  · have E := Lib.hid (play_no (r := r) fun h : PlayOk x ns r => ga (ask_ok h.tun h.set shift0))
    have d0 : (askC x ns 0 == 0) = false := by simpa using ga
    clear ga
    go_enter Try.func42, Try.ntmps42
    go_wp2_with fail
    refine (l26Ask_any _ lv _ x ns 0 _ ⟨by simp [go_sem], by simp [go_sem], hlv.mono (by (repeat (first | with_reducible exact Below.refl _ _ | with_reducible exact hbw | (with_reducible refine Below.setCell ?_ ?_ _; rotate_left; · first | exact Nat.le_refl _ | omega | (simp; done) | (simp; omega)) | (with_reducible refine Below.alloc ?_ ?_ _; rotate_left; · first | exact Nat.le_refl _ | omega | (simp; done) | (simp; omega)) | with_reducible refine below_drewN ?_ _ | with_reducible refine Below.drew ?_))), ok.1⟩ (Ints.mono hn (by (repeat (first | with_reducible exact Below.refl _ _ | with_reducible exact hbw | (with_reducible refine Below.setCell ?_ ?_ _; rotate_left; · first | exact Nat.le_refl _ | omega | (simp; done) | (simp; omega)) | (with_reducible refine Below.alloc ?_ ?_ _; rotate_left; · first | exact Nat.le_refl _ | omega | (simp; done) | (simp; omega)) | with_reducible refine below_drewN ?_ _ | with_reducible refine Below.drew ?_))))).mono ?_
    rintro e w1 ⟨rfl, hb⟩
    have hbw : Below w.heap.size w w1 := Below.trans (by (repeat (first | with_reducible exact Below.refl _ _ | with_reducible exact hbw | (with_reducible refine Below.setCell ?_ ?_ _; rotate_left; · first | exact Nat.le_refl _ | omega | (simp; done) | (simp; omega)) | (with_reducible refine Below.alloc ?_ ?_ _; rotate_left; · first | exact Nat.le_refl _ | omega | (simp; done) | (simp; omega)) | with_reducible refine below_drewN ?_ _ | with_reducible refine Below.drew ?_))) (hb.mono (by simp <;> omega))
    have y0 : w1.cell? ⟨w.heap.size, 0, none⟩ = some (.string x.name) := cellB hb (by simp [go_sem])
    have y1 : w1.cell? ⟨w.heap.size, 1, none⟩ = some lv := cellB hb (by simp [go_sem])
    clear hb
    go_wp2
    go_ret
    exact ⟨ret_bool E.out.symm, hbw⟩
  have AV := Lib.hid (ask_zero.1 ga)
  have d0 : (askC x ns 0 == 0) = true := by simpa using ga
  clear ga
  by_cases gr : restIn r
  rotate_left
  · have E := Lib.hid (play_no fun h : PlayOk x ns r => gr h.rest)
    have GR := Lib.hid (noB gr); clear gr
    go_enter Try.func42, Try.ntmps42
    go_wp2_with fail
    refine (l26Ask_any _ lv _ x ns 0 _ ⟨by simp [go_sem], by simp [go_sem], hlv.mono (by (repeat (first | with_reducible exact Below.refl _ _ | with_reducible exact hbw | (with_reducible refine Below.setCell ?_ ?_ _; rotate_left; · first | exact Nat.le_refl _ | omega | (simp; done) | (simp; omega)) | (with_reducible refine Below.alloc ?_ ?_ _; rotate_left; · first | exact Nat.le_refl _ | omega | (simp; done) | (simp; omega)) | with_reducible refine below_drewN ?_ _ | with_reducible refine Below.drew ?_))), ok.1⟩ (Ints.mono hn (by (repeat (first | with_reducible exact Below.refl _ _ | with_reducible exact hbw | (with_reducible refine Below.setCell ?_ ?_ _; rotate_left; · first | exact Nat.le_refl _ | omega | (simp; done) | (simp; omega)) | (with_reducible refine Below.alloc ?_ ?_ _; rotate_left; · first | exact Nat.le_refl _ | omega | (simp; done) | (simp; omega)) | with_reducible refine below_drewN ?_ _ | with_reducible refine Below.drew ?_))))).mono ?_
    rintro e w1 ⟨rfl, hb⟩
    have hbw : Below w.heap.size w w1 := Below.trans (by (repeat (first | with_reducible exact Below.refl _ _ | with_reducible exact hbw | (with_reducible refine Below.setCell ?_ ?_ _; rotate_left; · first | exact Nat.le_refl _ | omega | (simp; done) | (simp; omega)) | (with_reducible refine Below.alloc ?_ ?_ _; rotate_left; · first | exact Nat.le_refl _ | omega | (simp; done) | (simp; omega)) | with_reducible refine below_drewN ?_ _ | with_reducible refine Below.drew ?_))) (hb.mono (by simp <;> omega))
    have y0 : w1.cell? ⟨w.heap.size, 0, none⟩ = some (.string x.name) := cellB hb (by simp [go_sem])
    have y1 : w1.cell? ⟨w.heap.size, 1, none⟩ = some lv := cellB hb (by simp [go_sem])
    clear hb
    go_wp2_with fail
    refine (l26Rest_any false _ _ GR.out).mono ?_
    rintro e w2 ⟨rfl, rfl⟩
    go_wp2
    go_ret
    exact ⟨ret_bool E.out.symm, hbw⟩
  have GR := Lib.hid (yesB gr)
  have RI := Lib.hid gr; clear gr
  by_cases gm : missV x ns 0 = 0
  rotate_left
  · have E := Lib.hid (play_no fun h : PlayOk x ns r => gm h.miss)
    have dm : (missV x ns 0 == 0) = false := by simpa using gm
    clear gm
    go_enter Try.func42, Try.ntmps42
    go_wp2_with fail
    refine (l26Ask_any _ lv _ x ns 0 _ ⟨by simp [go_sem], by simp [go_sem], hlv.mono (by (repeat (first | with_reducible exact Below.refl _ _ | with_reducible exact hbw | (with_reducible refine Below.setCell ?_ ?_ _; rotate_left; · first | exact Nat.le_refl _ | omega | (simp; done) | (simp; omega)) | (with_reducible refine Below.alloc ?_ ?_ _; rotate_left; · first | exact Nat.le_refl _ | omega | (simp; done) | (simp; omega)) | with_reducible refine below_drewN ?_ _ | with_reducible refine Below.drew ?_))), ok.1⟩ (Ints.mono hn (by (repeat (first | with_reducible exact Below.refl _ _ | with_reducible exact hbw | (with_reducible refine Below.setCell ?_ ?_ _; rotate_left; · first | exact Nat.le_refl _ | omega | (simp; done) | (simp; omega)) | (with_reducible refine Below.alloc ?_ ?_ _; rotate_left; · first | exact Nat.le_refl _ | omega | (simp; done) | (simp; omega)) | with_reducible refine below_drewN ?_ _ | with_reducible refine Below.drew ?_))))).mono ?_
    rintro e w1 ⟨rfl, hb⟩
    have hbw : Below w.heap.size w w1 := Below.trans (by (repeat (first | with_reducible exact Below.refl _ _ | with_reducible exact hbw | (with_reducible refine Below.setCell ?_ ?_ _; rotate_left; · first | exact Nat.le_refl _ | omega | (simp; done) | (simp; omega)) | (with_reducible refine Below.alloc ?_ ?_ _; rotate_left; · first | exact Nat.le_refl _ | omega | (simp; done) | (simp; omega)) | with_reducible refine below_drewN ?_ _ | with_reducible refine Below.drew ?_))) (hb.mono (by simp <;> omega))
    have y0 : w1.cell? ⟨w.heap.size, 0, none⟩ = some (.string x.name) := cellB hb (by simp [go_sem])
    have y1 : w1.cell? ⟨w.heap.size, 1, none⟩ = some lv := cellB hb (by simp [go_sem])
    clear hb
    go_wp2_with fail
    refine (l26Rest_any true _ _ GR.out).mono ?_
    rintro e w2 ⟨rfl, rfl⟩
    go_wp2_with fail
    refine (l26Missing_any _ lv _ x ns 0 _ ⟨y0, y1, hlv.mono hbw, ok.1⟩ (Ints.mono hn hbw) AV.out.1 shift0).mono ?_
    rintro e w3 ⟨rfl, hq⟩
    go_wp2
    go_ret
    exact ⟨ret_bool E.out.symm, hbw.trans (hq.below _)⟩
  have dm : (missV x ns 0 == 0) = true := by simpa using gm
  have MV := Lib.hid gm; clear gm
  go_enter Try.func42, Try.ntmps42
  go_wp2_with fail
  refine (l26Ask_any _ lv _ x ns 0 _ ⟨by simp [go_sem], by simp [go_sem], hlv.mono (by (repeat (first | with_reducible exact Below.refl _ _ | with_reducible exact hbw | (with_reducible refine Below.setCell ?_ ?_ _; rotate_left; · first | exact Nat.le_refl _ | omega | (simp; done) | (simp; omega)) | (with_reducible refine Below.alloc ?_ ?_ _; rotate_left; · first | exact Nat.le_refl _ | omega | (simp; done) | (simp; omega)) | with_reducible refine below_drewN ?_ _ | with_reducible refine Below.drew ?_))), ok.1⟩ (Ints.mono hn (by (repeat (first | with_reducible exact Below.refl _ _ | with_reducible exact hbw | (with_reducible refine Below.setCell ?_ ?_ _; rotate_left; · first | exact Nat.le_refl _ | omega | (simp; done) | (simp; omega)) | (with_reducible refine Below.alloc ?_ ?_ _; rotate_left; · first | exact Nat.le_refl _ | omega | (simp; done) | (simp; omega)) | with_reducible refine below_drewN ?_ _ | with_reducible refine Below.drew ?_))))).mono ?_
  rintro e w1 ⟨rfl, hb⟩
  have hbw : Below w.heap.size w w1 := Below.trans (by (repeat (first | with_reducible exact Below.refl _ _ | with_reducible exact hbw | (with_reducible refine Below.setCell ?_ ?_ _; rotate_left; · first | exact Nat.le_refl _ | omega | (simp; done) | (simp; omega)) | (with_reducible refine Below.alloc ?_ ?_ _; rotate_left; · first | exact Nat.le_refl _ | omega | (simp; done) | (simp; omega)) | with_reducible refine below_drewN ?_ _ | with_reducible refine Below.drew ?_))) (hb.mono (by simp <;> omega))
  have y0 : w1.cell? ⟨w.heap.size, 0, none⟩ = some (.string x.name) := cellB hb (by simp [go_sem])
  have y1 : w1.cell? ⟨w.heap.size, 1, none⟩ = some lv := cellB hb (by simp [go_sem])
  clear hb
  go_wp2_with fail
  refine (l26Rest_any true _ _ GR.out).mono ?_
  rintro e w2 ⟨rfl, rfl⟩
  go_wp2_with fail
  refine (l26Missing_any _ lv _ x ns 0 _ ⟨y0, y1, hlv.mono hbw, ok.1⟩ (Ints.mono hn hbw) AV.out.1 shift0).mono ?_
  rintro e w3 ⟨rfl, hq⟩
  have hb3 := hq.below w2.heap.size
  have hbw3 := hbw.trans (hb3.mono hbw.size)
  go_wp2_with fail
  refine (l26Fast_any _ lv x r _ ⟨cellB hb3 y0, cellB hb3 y1, hlv.mono hbw3, ok.1⟩ AV.out.1).mono ?_
  rintro e w4 ⟨v4, rfl, ho4, hb4⟩
  obtain ⟨a4, c4, rfl⟩ := ho4.form
  have E := Lib.hid (show (((fastL x.tones r x.tones.length).length : Int) == 0) = playB x ns r by
    rw [len_zero]
    by_cases hf : fastL x.tones r x.tones.length = []
    · rw [play_yes ⟨AV.out.1, AV.out.2.1, RI.out, MV.out, hf⟩]; simpa using hf
    · rw [play_no fun h => hf h.fast]; simpa using hf)
  clear ho4
  go_wp2
  go_ret
  exact ⟨ret_bool E.out, hbw3.trans (hb4.mono hbw3.size)⟩

set_option maxHeartbeats 2000000 in
theorem implIsPlayable_any (v : Value) (x : TunD) (v2 : Value) (ns : List Int) (r : Int) (w : World) (h : RdTun w v x) (ok : x.ok) (_ : x.tones.length ≤ 1048576) (hn : RdInts w v2 ns) (_ : ∀ x ∈ ns, I64 x) (_ : ns.length ≤ 1048576) (_ : I64 r) :
    Calls Try.prog 43 #[v, v2, .int .i64 r] w fun e w' => e = .returned (.bool (playB x ns r)) ∧ Below w.heap.size w w' := by
  obtain ⟨lv, rfl, hlv⟩ := h
  have hn : Ints w v2 ns := hn
  obtain ⟨a1, cs1, rfl, _, _, _⟩ := id hn
  by_cases gx : validTunB x = true
  rotate_left
  · have E := Lib.hid (play_no fun h : PlayOk x ns r => gx h.tun)
    have GX := Lib.hid (show validTunB x = false by simpa using gx); clear gx
    go_enter Try.func43, Try.ntmps43
    go_wp2_with fail
    refine (implValidTun_any _ lv x _ ⟨rfl, hlv.mono (by (repeat (first | with_reducible exact Below.refl _ _ | with_reducible exact hbw | (with_reducible refine Below.setCell ?_ ?_ _; rotate_left; · first | exact Nat.le_refl _ | omega | (simp; done) | (simp; omega)) | (with_reducible refine Below.alloc ?_ ?_ _; rotate_left; · first | exact Nat.le_refl _ | omega | (simp; done) | (simp; omega)) | with_reducible refine below_drewN ?_ _ | with_reducible refine Below.drew ?_)))⟩ ok.1).mono ?_
    rw [GX.out]
    rintro e w1 ⟨rfl, hb⟩
    have hbw : Below w.heap.size w w1 := Below.trans (by (repeat (first | with_reducible exact Below.refl _ _ | with_reducible exact hbw | (with_reducible refine Below.setCell ?_ ?_ _; rotate_left; · first | exact Nat.le_refl _ | omega | (simp; done) | (simp; omega)) | (with_reducible refine Below.alloc ?_ ?_ _; rotate_left; · first | exact Nat.le_refl _ | omega | (simp; done) | (simp; omega)) | with_reducible refine below_drewN ?_ _ | with_reducible refine Below.drew ?_))) (hb.mono (by simp <;> omega))
    have y0 : w1.cell? ⟨w.heap.size, 0, none⟩ = some (.string x.name) := cellB hb (by simp [go_sem])
    have y1 : w1.cell? ⟨w.heap.size, 1, none⟩ = some lv := cellB hb (by simp [go_sem])
    clear hb
    go_wp2
    go_ret
    exact ⟨ret_bool E.out.symm, hbw⟩
  have GX := Lib.hid gx; clear gx
  by_cases gs : validSet ns = true
  rotate_left
  · have E := Lib.hid (play_no fun h : PlayOk x ns r => gs h.set)
    have GS := Lib.hid (show validSet ns = false by simpa using gs); clear gs
    go_enter Try.func43, Try.ntmps43
    go_wp2_with fail
    refine (implValidTun_any _ lv x _ ⟨rfl, hlv.mono (by (repeat (first | with_reducible exact Below.refl _ _ | with_reducible exact hbw | (with_reducible refine Below.setCell ?_ ?_ _; rotate_left; · first | exact Nat.le_refl _ | omega | (simp; done) | (simp; omega)) | (with_reducible refine Below.alloc ?_ ?_ _; rotate_left; · first | exact Nat.le_refl _ | omega | (simp; done) | (simp; omega)) | with_reducible refine below_drewN ?_ _ | with_reducible refine Below.drew ?_)))⟩ ok.1).mono ?_
    rw [GX.out]
    rintro e w1 ⟨rfl, hb⟩
    have hbw : Below w.heap.size w w1 := Below.trans (by (repeat (first | with_reducible exact Below.refl _ _ | with_reducible exact hbw | (with_reducible refine Below.setCell ?_ ?_ _; rotate_left; · first | exact Nat.le_refl _ | omega | (simp; done) | (simp; omega)) | (with_reducible refine Below.alloc ?_ ?_ _; rotate_left; · first | exact Nat.le_refl _ | omega | (simp; done) | (simp; omega)) | with_reducible refine below_drewN ?_ _ | with_reducible refine Below.drew ?_))) (hb.mono (by simp <;> omega))
    have y0 : w1.cell? ⟨w.heap.size, 0, none⟩ = some (.string x.name) := cellB hb (by simp [go_sem])
    have y1 : w1.cell? ⟨w.heap.size, 1, none⟩ = some lv := cellB hb (by simp [go_sem])
    clear hb
    go_wp2_with fail
    refine (implValidSet_any _ ns _ (Ints.mono hn hbw)).mono ?_
    rw [GS.out]
    rintro e w2 ⟨rfl, hq⟩
    go_wp2
    go_ret
    exact ⟨ret_bool E.out.symm, hbw.trans (hq.below _)⟩
  have GS := Lib.hid gs; clear gs
  by_cases gr : restIn r
  rotate_left
  · have E := Lib.hid (play_no fun h : PlayOk x ns r => gr h.rest)
    have GR := Lib.hid (noB gr); clear gr
    go_enter Try.func43, Try.ntmps43
    go_wp2_with fail
    refine (implValidTun_any _ lv x _ ⟨rfl, hlv.mono (by (repeat (first | with_reducible exact Below.refl _ _ | with_reducible exact hbw | (with_reducible refine Below.setCell ?_ ?_ _; rotate_left; · first | exact Nat.le_refl _ | omega | (simp; done) | (simp; omega)) | (with_reducible refine Below.alloc ?_ ?_ _; rotate_left; · first | exact Nat.le_refl _ | omega | (simp; done) | (simp; omega)) | with_reducible refine below_drewN ?_ _ | with_reducible refine Below.drew ?_)))⟩ ok.1).mono ?_
    rw [GX.out]
    rintro e w1 ⟨rfl, hb⟩
    have hbw : Below w.heap.size w w1 := Below.trans (by (repeat (first | with_reducible exact Below.refl _ _ | with_reducible exact hbw | (with_reducible refine Below.setCell ?_ ?_ _; rotate_left; · first | exact Nat.le_refl _ | omega | (simp; done) | (simp; omega)) | (with_reducible refine Below.alloc ?_ ?_ _; rotate_left; · first | exact Nat.le_refl _ | omega | (simp; done) | (simp; omega)) | with_reducible refine below_drewN ?_ _ | with_reducible refine Below.drew ?_))) (hb.mono (by simp <;> omega))
    have y0 : w1.cell? ⟨w.heap.size, 0, none⟩ = some (.string x.name) := cellB hb (by simp [go_sem])
    have y1 : w1.cell? ⟨w.heap.size, 1, none⟩ = some lv := cellB hb (by simp [go_sem])
    clear hb
    go_wp2_with fail
    refine (implValidSet_any _ ns _ (Ints.mono hn hbw)).mono ?_
    rw [GS.out]
    rintro e w2 ⟨rfl, hq⟩
    have y0 := (hq.cell _).trans y0
    have y1 := (hq.cell _).trans y1
    have hbw := hbw.trans (hq.below _)
    go_wp2_with fail
    refine (isRest_any false _ _ GR.out).mono ?_
    rintro e w3 ⟨rfl, rfl⟩
    go_wp2
    go_ret
    exact ⟨ret_bool E.out.symm, hbw⟩
  have GR := Lib.hid (yesB gr)
  have RI := Lib.hid gr; clear gr
  by_cases gm : missV x ns 0 = 0
  rotate_left
  · have E := Lib.hid (play_no fun h : PlayOk x ns r => gm h.miss)
    have dm : (missV x ns 0 == 0) = false := by simpa using gm
    clear gm
    go_enter Try.func43, Try.ntmps43
    go_wp2_with fail
    refine (implValidTun_any _ lv x _ ⟨rfl, hlv.mono (by (repeat (first | with_reducible exact Below.refl _ _ | with_reducible exact hbw | (with_reducible refine Below.setCell ?_ ?_ _; rotate_left; · first | exact Nat.le_refl _ | omega | (simp; done) | (simp; omega)) | (with_reducible refine Below.alloc ?_ ?_ _; rotate_left; · first | exact Nat.le_refl _ | omega | (simp; done) | (simp; omega)) | with_reducible refine below_drewN ?_ _ | with_reducible refine Below.drew ?_)))⟩ ok.1).mono ?_
    rw [GX.out]
    rintro e w1 ⟨rfl, hb⟩
    have hbw : Below w.heap.size w w1 := Below.trans (by (repeat (first | with_reducible exact Below.refl _ _ | with_reducible exact hbw | (with_reducible refine Below.setCell ?_ ?_ _; rotate_left; · first | exact Nat.le_refl _ | omega | (simp; done) | (simp; omega)) | (with_reducible refine Below.alloc ?_ ?_ _; rotate_left; · first | exact Nat.le_refl _ | omega | (simp; done) | (simp; omega)) | with_reducible refine below_drewN ?_ _ | with_reducible refine Below.drew ?_))) (hb.mono (by simp <;> omega))
    have y0 : w1.cell? ⟨w.heap.size, 0, none⟩ = some (.string x.name) := cellB hb (by simp [go_sem])
    have y1 : w1.cell? ⟨w.heap.size, 1, none⟩ = some lv := cellB hb (by simp [go_sem])
    clear hb
    go_wp2_with fail
    refine (implValidSet_any _ ns _ (Ints.mono hn hbw)).mono ?_
    rw [GS.out]
    rintro e w2 ⟨rfl, hq⟩
    have y0 := (hq.cell _).trans y0
    have y1 := (hq.cell _).trans y1
    have hbw := hbw.trans (hq.below _)
    go_wp2_with fail
    refine (isRest_any true _ _ GR.out).mono ?_
    rintro e w3 ⟨rfl, rfl⟩
    go_wp2_with fail
    refine (missing_any _ lv _ x ns 0 _ ⟨rfl, hlv.mono hbw⟩ (Ints.mono hn hbw) GX.out shift0).mono ?_
    rintro e w4 ⟨rfl, hb4⟩
    go_wp2
    go_ret
    exact ⟨ret_bool E.out.symm, hbw.trans (hb4.mono hbw.size)⟩
  have dm : (missV x ns 0 == 0) = true := by simpa using gm
  have MV := Lib.hid gm; clear gm
  go_enter Try.func43, Try.ntmps43
  go_wp2_with fail
  refine (implValidTun_any _ lv x _ ⟨rfl, hlv.mono (by (repeat (first | with_reducible exact Below.refl _ _ | with_reducible exact hbw | (with_reducible refine Below.setCell ?_ ?_ _; rotate_left; · first | exact Nat.le_refl _ | omega | (simp; done) | (simp; omega)) | (with_reducible refine Below.alloc ?_ ?_ _; rotate_left; · first | exact Nat.le_refl _ | omega | (simp; done) | (simp; omega)) | with_reducible refine below_drewN ?_ _ | with_reducible refine Below.drew ?_)))⟩ ok.1).mono ?_
  rw [GX.out]
  rintro e w1 ⟨rfl, hb⟩
  have hbw : Below w.heap.size w w1 := Below.trans (by (repeat (first | with_reducible exact Below.refl _ _ | with_reducible exact hbw | (with_reducible refine Below.setCell ?_ ?_ _; rotate_left; · first | exact Nat.le_refl _ | omega | (simp; done) | (simp; omega)) | (with_reducible refine Below.alloc ?_ ?_ _; rotate_left; · first | exact Nat.le_refl _ | omega | (simp; done) | (simp; omega)) | with_reducible refine below_drewN ?_ _ | with_reducible refine Below.drew ?_))) (hb.mono (by simp <;> omega))
  have y0 : w1.cell? ⟨w.heap.size, 0, none⟩ = some (.string x.name) := cellB hb (by simp [go_sem])
  have y1 : w1.cell? ⟨w.heap.size, 1, none⟩ = some lv := cellB hb (by simp [go_sem])
  clear hb
  go_wp2_with fail
  refine (implValidSet_any _ ns _ (Ints.mono hn hbw)).mono ?_
  rw [GS.out]
  rintro e w2 ⟨rfl, hq⟩
  have y0 := (hq.cell _).trans y0
  have y1 := (hq.cell _).trans y1
  have hbw := hbw.trans (hq.below _)
  go_wp2_with fail
  refine (isRest_any true _ _ GR.out).mono ?_
  rintro e w3 ⟨rfl, rfl⟩
  go_wp2_with fail
  refine (missing_any _ lv _ x ns 0 _ ⟨rfl, hlv.mono hbw⟩ (Ints.mono hn hbw) GX.out shift0).mono ?_
  rintro e w4 ⟨rfl, hb4⟩
  have y0 := cellB hb4 y0
  have y1 := cellB hb4 y1
  have hbw := hbw.trans (hb4.mono hbw.size)
  go_wp2_with fail
  refine (fastRepeats_any _ lv x r _ ⟨rfl, hlv.mono hbw⟩ GX.out).mono ?_
  rintro e w5 ⟨v5, rfl, ho5, hb5⟩
  obtain ⟨a5, c5, rfl⟩ := ho5.form
  have E := Lib.hid (show (((fastL x.tones r x.tones.length).length : Int) == 0) = playB x ns r by
    rw [len_zero]
    by_cases hf : fastL x.tones r x.tones.length = []
    · rw [play_yes ⟨GX.out, GS.out, RI.out, MV.out, hf⟩]; simpa using hf
    · rw [play_no fun h => hf h.fast]; simpa using hf)
  clear ho5
  go_wp2
  go_ret
  exact ⟨ret_bool E.out, hbw.trans (hb5.mono hbw.size)⟩


end Go.Proofs.Ytgelilelmmocgaa
