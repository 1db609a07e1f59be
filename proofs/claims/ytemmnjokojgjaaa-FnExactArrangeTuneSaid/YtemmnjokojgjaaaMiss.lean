/- Contracts of l26Missing, missing and MissingTones of both packages. -/
import Derived.Test.YtemmnjokojgjaaaAsk
import Derived.Test.YtemmnjokojgjaaaHasI
import Derived.Test.YtemmnjokojgjaaaKTun
import Derived.Test.YtemmnjokojgjaaaKInts
set_option linter.unusedSimpArgs false
set_option linter.unnecessarySimpa false
set_option linter.unusedVariables false
set_option maxRecDepth 100000
namespace Go.Proofs.Ytemmnjokojgjaaa
open Go.RowKit

/-- How many tones have no bell. -/
def missL (ns : List Int) (b : Int) (ts : List Ton) : List Ton := ts.filter fun x => decide (x.note + b ∉ ns)
def missV (x : TunD) (ns : List Int) (b : Int) : Int := (missL ns b x.tones).length
theorem miss_yes {ns : List Int} {b : Int} {ts : List Ton} {k : Nat} (h : k < ts.length) (hp : ts[k].note + b ∈ ns) : missL ns b (ts.take (k + 1)) = missL ns b (ts.take k) := by
  unfold missL; rw [List.take_succ_eq_append_getElem h, List.filter_append]; simp [hp]
theorem miss_no {ns : List Int} {b : Int} {ts : List Ton} {k : Nat} (h : k < ts.length) (hp : ¬ ts[k].note + b ∈ ns) : (missL ns b (ts.take (k + 1))).length = (missL ns b (ts.take k)).length + 1 := by
  unfold missL; rw [List.take_succ_eq_append_getElem h, List.filter_append, List.length_append]; simp [hp]
theorem miss_len (ns : List Int) (b : Int) (ts : List Ton) (k : Nat) : (missL ns b (ts.take k)).length ≤ k := by
  unfold missL; exact Nat.le_trans (List.length_filter_le _ _) (List.length_take_le _ _)
theorem TonOk.noteIn {x : Ton} (h : TonOk x) : 0 ≤ x.note ∧ x.note ≤ 127 := by
  have := h.note; unfold noteOk at this; exact this

set_option maxHeartbeats 1000000 in
theorem missing_any (vt lv v : Value) (x : TunD) (ns : List Int) (b : Int) (w : World) (h : Tun w vt lv x) (hn : Ints w v ns) (ok : validTunB x = true) (hs : shiftIn b) :
    Calls Try.prog 55 #[vt, v, .int .i64 b] w fun e w' => e = .returned (.int .i64 (missV x ns b)) ∧ Below w.heap.size w w' := by
  obtain ⟨rfl, hlv⟩ := h
  obtain ⟨a, ca, rfl, hca, hcm, _⟩ := id hlv
  obtain ⟨a1, cs1, rfl, _, _, _⟩ := id hn
  have hl := tun_len ok
  have OK := Lib.hid ok; clear ok
  obtain ⟨s1, s2⟩ := hs
  go_enter Try.func55, Try.ntmps55
  go_wp2_with fail
  go_loopw [7, 13, 9] (fun m i _ wr => ∃ k : Nat, k ≤ x.tones.length ∧ i = .int .i64 (k : Int) ∧ m = .int .i64 ((missL ns b (x.tones.take k)).length : Int) ∧ Below w.heap.size w wr) (fun _ i _ _ => x.tones.length - (intOf i).toNat)
  case atStart => exact ⟨0, Nat.zero_le _, by go_num, by simp [missL], by (repeat (first | with_reducible exact Below.refl _ _ | with_reducible exact hbw | (with_reducible refine Below.setCell ?_ ?_ _; rotate_left; · first | exact Nat.le_refl _ | omega | (simp; done) | (simp; omega)) | (with_reducible refine Below.alloc ?_ ?_ _; rotate_left; · first | exact Nat.le_refl _ | omega | (simp; done) | (simp; omega)) | with_reducible refine below_drewN ?_ _ | with_reducible refine Below.drew ?_))⟩
  case round =>
    obtain ⟨k, hk, rfl, rfl, hb⟩ := hrel
    have hz := hb.size
    by_cases hlt : k < x.tones.length
    · obtain ⟨b1, o1, rfl, hB1, d0, d1, d2⟩ := (hlv.mono hb).at hlt
      have l1 : b1 < wr.heap.size + 1 := by omega
      obtain ⟨n1, n2⟩ := (tun_tone OK.out hlt).noteIn
      have w1' : IntKind.i64.wrap (x.tones[k].note + b) = x.tones[k].note + b := IntWalk.i64_in _ (by omega)
      have ml := miss_len ns b x.tones k
      have HB := Lib.hid hb
      by_cases g : x.tones[k].note + b ∈ ns
      · have M := Lib.hid (miss_yes hlt g)
        have G := Lib.hid (show true = decide (x.tones[k].note + b ∈ ns) by simpa using g); clear g hb
        go_wp2_with fail
        refine (containsI_any true _ ns _ _ (Ints.mono hn (by have hbw := HB.out; (repeat (first | with_reducible exact Below.refl _ _ | with_reducible exact hbw | (with_reducible refine Below.setCell ?_ ?_ _; rotate_left; · first | exact Nat.le_refl _ | omega | (simp; done) | (simp; omega)) | (with_reducible refine Below.alloc ?_ ?_ _; rotate_left; · first | exact Nat.le_refl _ | omega | (simp; done) | (simp; omega)) | with_reducible refine below_drewN ?_ _ | with_reducible refine Below.drew ?_)))) G.out).mono ?_
        rintro e w1 ⟨rfl, hq1⟩
        have hst : Below wr.heap.size wr w1 := Below.trans (by (repeat (first | with_reducible exact Below.refl _ _ | with_reducible exact hbw | (with_reducible refine Below.setCell ?_ ?_ _; rotate_left; · first | exact Nat.le_refl _ | omega | (simp; done) | (simp; omega)) | (with_reducible refine Below.alloc ?_ ?_ _; rotate_left; · first | exact Nat.le_refl _ | omega | (simp; done) | (simp; omega)) | with_reducible refine below_drewN ?_ _ | with_reducible refine Below.drew ?_))) (hq1.below _)
        go_wp2
        go_roundw
        case rel => exact ⟨k + 1, by omega, by go_num, by rw [M.out], HB.out.trans (hst.mono hz)⟩
        case measure => simp [intOf] <;> omega
      · have M := Lib.hid (miss_no hlt g)
        have G := Lib.hid (show false = decide (x.tones[k].note + b ∈ ns) by simpa using g); clear g hb
        have w2' : IntKind.i64.wrap (((missL ns b (x.tones.take k)).length : Int) + 1) = ((missL ns b (x.tones.take k)).length : Int) + 1 := IntWalk.i64_in _ (by omega)
        go_wp2_with fail
        refine (containsI_any false _ ns _ _ (Ints.mono hn (by have hbw := HB.out; (repeat (first | with_reducible exact Below.refl _ _ | with_reducible exact hbw | (with_reducible refine Below.setCell ?_ ?_ _; rotate_left; · first | exact Nat.le_refl _ | omega | (simp; done) | (simp; omega)) | (with_reducible refine Below.alloc ?_ ?_ _; rotate_left; · first | exact Nat.le_refl _ | omega | (simp; done) | (simp; omega)) | with_reducible refine below_drewN ?_ _ | with_reducible refine Below.drew ?_)))) G.out).mono ?_
        rintro e w1 ⟨rfl, hq1⟩
        have hst : Below wr.heap.size wr w1 := Below.trans (by (repeat (first | with_reducible exact Below.refl _ _ | with_reducible exact hbw | (with_reducible refine Below.setCell ?_ ?_ _; rotate_left; · first | exact Nat.le_refl _ | omega | (simp; done) | (simp; omega)) | (with_reducible refine Below.alloc ?_ ?_ _; rotate_left; · first | exact Nat.le_refl _ | omega | (simp; done) | (simp; omega)) | with_reducible refine below_drewN ?_ _ | with_reducible refine Below.drew ?_))) (hq1.below _)
        go_wp2
        go_roundw
        case rel => exact ⟨k + 1, by omega, by go_num, by rw [M.out]; go_num, HB.out.trans (hst.mono hz)⟩
        case measure => simp [intOf] <;> omega
    · have M := Lib.hid (show missL ns b (x.tones.take k) = missL ns b x.tones by rw [List.take_of_length_le (by omega)])
      rw [M.out]
      go_wp2
      go_ret
      exact ⟨rfl, hb⟩

noncomputable def mtV (x : TunD) (ns : List Int) (b : Int) : Int := if askC x ns b = 0 then missV x ns b else 0

set_option maxHeartbeats 1000000 in
theorem implMissingTones_any (v : Value) (x : TunD) (v2 : Value) (ns : List Int) (b : Int) (w : World) (h : RdTun w v x) (ok : x.ok) (_ : x.tones.length ≤ 1048576) (hn : RdInts w v2 ns) (_ : ∀ x ∈ ns, I64 x) (_ : ns.length ≤ 1048576) (_ : I64 b) :
    Calls Try.prog 24 #[v, v2, .int .i64 b] w fun e w' => e = .returned (.tuple #[.int .i64 (mtV x ns b), .int .i64 (askC x ns b)]) ∧ Below w.heap.size w w' := by
  obtain ⟨lv, rfl, hlv⟩ := h
  have hn : Ints w v2 ns := hn
  obtain ⟨a1, cs1, rfl, _, _, _⟩ := id hn
  by_cases ga : askC x ns b = 0
  · have AV := Lib.hid (ask_zero.1 ga)
    have E := Lib.hid (show mtV x ns b = missV x ns b by unfold mtV; rw [if_pos ga])
    have d0 : (askC x ns b != 0) = false := by simpa using ga
    have A0 := Lib.hid ga; clear ga
    go_enter Try.func24, Try.ntmps24
    go_wp2_with fail
    refine (arranged_any _ lv _ x ns b _ ⟨rfl, hlv.mono (by (repeat (first | with_reducible exact Below.refl _ _ | with_reducible exact hbw | (with_reducible refine Below.setCell ?_ ?_ _; rotate_left; · first | exact Nat.le_refl _ | omega | (simp; done) | (simp; omega)) | (with_reducible refine Below.alloc ?_ ?_ _; rotate_left; · first | exact Nat.le_refl _ | omega | (simp; done) | (simp; omega)) | with_reducible refine below_drewN ?_ _ | with_reducible refine Below.drew ?_)))⟩ ok.1 (Ints.mono hn (by (repeat (first | with_reducible exact Below.refl _ _ | with_reducible exact hbw | (with_reducible refine Below.setCell ?_ ?_ _; rotate_left; · first | exact Nat.le_refl _ | omega | (simp; done) | (simp; omega)) | (with_reducible refine Below.alloc ?_ ?_ _; rotate_left; · first | exact Nat.le_refl _ | omega | (simp; done) | (simp; omega)) | with_reducible refine below_drewN ?_ _ | with_reducible refine Below.drew ?_))))).mono ?_
    rintro e w1 ⟨rfl, hb⟩
    have hbw : Below w.heap.size w w1 := Below.trans (by (repeat (first | with_reducible exact Below.refl _ _ | with_reducible exact hbw | (with_reducible refine Below.setCell ?_ ?_ _; rotate_left; · first | exact Nat.le_refl _ | omega | (simp; done) | (simp; omega)) | (with_reducible refine Below.alloc ?_ ?_ _; rotate_left; · first | exact Nat.le_refl _ | omega | (simp; done) | (simp; omega)) | with_reducible refine below_drewN ?_ _ | with_reducible refine Below.drew ?_))) (hb.mono (by simp <;> omega))
    have y0 : w1.cell? ⟨w.heap.size, 0, none⟩ = some (.string x.name) := cellB hb (by simp [go_sem])
    have y1 : w1.cell? ⟨w.heap.size, 1, none⟩ = some lv := cellB hb (by simp [go_sem])
    clear hb
    go_wp2_with fail
    refine (missing_any _ lv _ x ns b _ ⟨rfl, hlv.mono hbw⟩ (Ints.mono hn hbw) AV.out.1 AV.out.2.2).mono ?_
    rintro e w2 ⟨rfl, h2⟩
    go_wp2
    go_ret2
    exact ⟨by rw [E.out, A0.out]; rfl, hbw.trans (h2.mono hbw.size)⟩
  · have E := Lib.hid (show mtV x ns b = 0 by unfold mtV; rw [if_neg ga])
    have d0 : (askC x ns b != 0) = true := by simpa using ga
    clear ga
    go_enter Try.func24, Try.ntmps24
    go_wp2_with fail
    refine (arranged_any _ lv _ x ns b _ ⟨rfl, hlv.mono (by (repeat (first | with_reducible exact Below.refl _ _ | with_reducible exact hbw | (with_reducible refine Below.setCell ?_ ?_ _; rotate_left; · first | exact Nat.le_refl _ | omega | (simp; done) | (simp; omega)) | (with_reducible refine Below.alloc ?_ ?_ _; rotate_left; · first | exact Nat.le_refl _ | omega | (simp; done) | (simp; omega)) | with_reducible refine below_drewN ?_ _ | with_reducible refine Below.drew ?_)))⟩ ok.1 (Ints.mono hn (by (repeat (first | with_reducible exact Below.refl _ _ | with_reducible exact hbw | (with_reducible refine Below.setCell ?_ ?_ _; rotate_left; · first | exact Nat.le_refl _ | omega | (simp; done) | (simp; omega)) | (with_reducible refine Below.alloc ?_ ?_ _; rotate_left; · first | exact Nat.le_refl _ | omega | (simp; done) | (simp; omega)) | with_reducible refine below_drewN ?_ _ | with_reducible refine Below.drew ?_))))).mono ?_
    rintro e w1 ⟨rfl, hb⟩
    have hbw : Below w.heap.size w w1 := Below.trans (by (repeat (first | with_reducible exact Below.refl _ _ | with_reducible exact hbw | (with_reducible refine Below.setCell ?_ ?_ _; rotate_left; · first | exact Nat.le_refl _ | omega | (simp; done) | (simp; omega)) | (with_reducible refine Below.alloc ?_ ?_ _; rotate_left; · first | exact Nat.le_refl _ | omega | (simp; done) | (simp; omega)) | with_reducible refine below_drewN ?_ _ | with_reducible refine Below.drew ?_))) (hb.mono (by simp <;> omega))
    clear hb
    go_wp2
    go_ret2
    exact ⟨by rw [E.out]; rfl, hbw⟩

end Go.Proofs.Ytemmnjokojgjaaa
