/- Contracts of NotesUsed and SoundingAt of the reference. -/
import Derived.Test.YtfnbjegbaobpnaaNotes
set_option linter.unusedSimpArgs false
set_option linter.unnecessarySimpa false
set_option linter.unusedVariables false
set_option maxRecDepth 100000
namespace Go.Proofs.Ytfnbjegbaobpnaa
open Go.RowKit

set_option maxHeartbeats 2000000 in
theorem specNotesUsed_any (v : Value) (x : TunD) (w : World) (h : RdTun w v x) (ok : x.ok) (hs : x.tones.length ≤ 1048576) :
    Calls Try.prog 26 #[v] w fun e w' => ∃ v', e = .returned (.tuple #[v', .int .i64 (tuneEndC x)]) ∧ OwnInts w.heap.size w'.heap.size w' v' (usedV x) ∧ Below w.heap.size w w' := by
  obtain ⟨lv, rfl, hlv⟩ := h
  obtain ⟨a, ca, rfl, _⟩ := id hlv
  cases g : validTunB x
  · obtain ⟨e1, e2⟩ := used_no g
    have GV := Lib.hid g; clear g
    rw [e1, e2]; clear e1 e2
    go_enter Try.func26, Try.ntmps26
    go_wp2_with fail
    refine (l25Ok_any _ _ x _ ⟨by simp [go_sem], by simp [go_sem], hlv.mono (by (repeat (first | with_reducible exact Below.refl _ _ | with_reducible exact hbw | (with_reducible refine Below.setCell ?_ ?_ _; rotate_left; · first | exact Nat.le_refl _ | omega | (simp; done) | (simp; omega)) | (with_reducible refine Below.alloc ?_ ?_ _; rotate_left; · first | exact Nat.le_refl _ | omega | (simp; done) | (simp; omega)) | with_reducible refine below_drewN ?_ _ | with_reducible refine Below.drew ?_))), ok.1⟩).mono ?_
    rw [GV.out]
    rintro e w1 ⟨rfl, hb⟩
    have hbw : Below w.heap.size w w1 := Below.trans (by (repeat (first | with_reducible exact Below.refl _ _ | with_reducible exact hbw | (with_reducible refine Below.setCell ?_ ?_ _; rotate_left; · first | exact Nat.le_refl _ | omega | (simp; done) | (simp; omega)) | (with_reducible refine Below.alloc ?_ ?_ _; rotate_left; · first | exact Nat.le_refl _ | omega | (simp; done) | (simp; omega)) | with_reducible refine below_drewN ?_ _ | with_reducible refine Below.drew ?_))) (hb.mono (by simp <;> omega))
    have y1 : w1.cell? ⟨w.heap.size, 1, none⟩ = some (.slice a x.tones.length ca) := cellB hb (by simp [go_sem])
    clear hb
    go_wp2
    go_ret2
    exact ⟨_, rfl, OwnInts.nil _ _ _, hbw⟩
  · obtain ⟨e1, e2⟩ := used_yes g
    have GV := Lib.hid g; clear g
    rw [e1, e2]; clear e1 e2
    go_enter Try.func26, Try.ntmps26
    go_wp2_with fail
    refine (l25Ok_any _ _ x _ ⟨by simp [go_sem], by simp [go_sem], hlv.mono (by (repeat (first | with_reducible exact Below.refl _ _ | with_reducible exact hbw | (with_reducible refine Below.setCell ?_ ?_ _; rotate_left; · first | exact Nat.le_refl _ | omega | (simp; done) | (simp; omega)) | (with_reducible refine Below.alloc ?_ ?_ _; rotate_left; · first | exact Nat.le_refl _ | omega | (simp; done) | (simp; omega)) | with_reducible refine below_drewN ?_ _ | with_reducible refine Below.drew ?_))), ok.1⟩).mono ?_
    rw [GV.out]
    rintro e w1 ⟨rfl, hb⟩
    have hbw : Below w.heap.size w w1 := Below.trans (by (repeat (first | with_reducible exact Below.refl _ _ | with_reducible exact hbw | (with_reducible refine Below.setCell ?_ ?_ _; rotate_left; · first | exact Nat.le_refl _ | omega | (simp; done) | (simp; omega)) | (with_reducible refine Below.alloc ?_ ?_ _; rotate_left; · first | exact Nat.le_refl _ | omega | (simp; done) | (simp; omega)) | with_reducible refine below_drewN ?_ _ | with_reducible refine Below.drew ?_))) (hb.mono (by simp <;> omega))
    have y1 : w1.cell? ⟨w.heap.size, 1, none⟩ = some (.slice a x.tones.length ca) := cellB hb (by simp [go_sem])
    clear hb
    have hlw := World.block_lt_of_cell? _ _ y1
    simp only at hlw
    go_wp2_with fail
    go_loopw [4, 5] (fun o i wr => ∃ (k : Nat) (ys : List Int) (a' : Option Addr) (c' : Nat), k ≤ x.tones.length ∧ i = .int .i64 k ∧ ys = notesOfL (sel allT (x.tones.take k)) ∧ o = .slice a' ys.length c' ∧ wr.ownsRow w.heap.size 2 1 (.slice a' ys.length c') ys.length (ys.map (Value.int .i64)) ∧ wr.cell? ⟨w.heap.size, 1, none⟩ = some (.slice a x.tones.length ca) ∧ w.heap.size < wr.heap.size ∧ Below w.heap.size w wr) (fun _ i _ => x.tones.length - (intOf i).toNat)
    case atStart => exact ⟨0, [], _, _, Nat.zero_le _, rfl, rfl, rfl, owns_empty _ _ 1 _ hbw.size, by simpa [go_sem, hlw] using y1, by simp; omega, by (repeat (first | with_reducible exact Below.refl _ _ | with_reducible exact hbw | (with_reducible refine Below.setCell ?_ ?_ _; rotate_left; · first | exact Nat.le_refl _ | omega | (simp; done) | (simp; omega)) | (with_reducible refine Below.alloc ?_ ?_ _; rotate_left; · first | exact Nat.le_refl _ | omega | (simp; done) | (simp; omega)) | with_reducible refine below_drewN ?_ _ | with_reducible refine Below.drew ?_))⟩
    case round =>
      obtain ⟨k, ys, a1, c1, hk, rfl, hys, rfl, ho, u1, hz, hb⟩ := hrel
      have HY := Lib.hid hys; clear hys
      by_cases hlt : k < x.tones.length
      · obtain ⟨b1, o1, rfl, hB1, u0, _, _⟩ := (hlv.mono hb).at hlt
        have S := Lib.hid (sel_yes (p := allT) hlt rfl)
        have hyl : ys.length ≤ 1048576 := by have := notesOfL_len (sel allT (x.tones.take k)); have := sel_len allT x.tones k; rw [← HY.out] at *; omega
        go_wp2_with fail
        refine (l00Put_any _ ys x.tones[k].note _ (Sl.of_owns ho) (by omega)).mono ?_
        rintro e w2 ⟨v2, rfl, ho2, hb2⟩
        obtain ⟨a2, c2, rfl⟩ := owns_slice ho2
        have hb3 := hb.trans (hb2.mono hb.size)
        have hz2 := hb2.size
        have u3 := cellB hb2 u1
        go_wp2
        go_roundw
        case rel => exact ⟨k + 1, putI ys x.tones[k].note, a2, c2, by omega, by go_num, by rw [S.out, notesOfL_snoc, HY.out], rfl, owns_base ho2 hb.size, u3, by omega, hb3⟩
        case measure => simp [intOf] <;> omega
      · have E := Lib.hid (show ys = notesOfL (sel allT x.tones) by rw [HY.out, sel_all _ _ (by omega)])
        go_wp2
        go_ret2
        exact ⟨_, rfl, by rw [← E.out]; exact OwnRow.mk' ho, hb⟩

set_option maxHeartbeats 4000000 in
theorem specSoundingAt_any (v : Value) (x : TunD) (t : Int) (w : World) (h : RdTun w v x) (ok : x.ok) (hs : x.tones.length ≤ 1048576) (_ : I64 t) :
    Calls Try.prog 32 #[v, .int .i64 t] w fun e w' => ∃ v', e = .returned (.tuple #[v', .int .i64 (soundC x t)]) ∧ OwnInts w.heap.size w'.heap.size w' v' (soundV x t) ∧ Below w.heap.size w w' := by
  obtain ⟨lv, rfl, hlv⟩ := h
  obtain ⟨a, ca, rfl, _⟩ := id hlv
  cases g : validTunB x
  · obtain ⟨e1, e2⟩ := sound_no (t := t) g
    have GV := Lib.hid g; clear g
    rw [e1, e2]; clear e1 e2
    go_enter Try.func32, Try.ntmps32
    go_wp2_with fail
    refine (l25Ok_any _ _ x _ ⟨by simp [go_sem], by simp [go_sem], hlv.mono (by (repeat (first | with_reducible exact Below.refl _ _ | with_reducible exact hbw | (with_reducible refine Below.setCell ?_ ?_ _; rotate_left; · first | exact Nat.le_refl _ | omega | (simp; done) | (simp; omega)) | (with_reducible refine Below.alloc ?_ ?_ _; rotate_left; · first | exact Nat.le_refl _ | omega | (simp; done) | (simp; omega)) | with_reducible refine below_drewN ?_ _ | with_reducible refine Below.drew ?_))), ok.1⟩).mono ?_
    rw [GV.out]
    rintro e w1 ⟨rfl, hb⟩
    have hbw : Below w.heap.size w w1 := Below.trans (by (repeat (first | with_reducible exact Below.refl _ _ | with_reducible exact hbw | (with_reducible refine Below.setCell ?_ ?_ _; rotate_left; · first | exact Nat.le_refl _ | omega | (simp; done) | (simp; omega)) | (with_reducible refine Below.alloc ?_ ?_ _; rotate_left; · first | exact Nat.le_refl _ | omega | (simp; done) | (simp; omega)) | with_reducible refine below_drewN ?_ _ | with_reducible refine Below.drew ?_))) (hb.mono (by simp <;> omega))
    have y1 : w1.cell? ⟨w.heap.size, 1, none⟩ = some (.slice a x.tones.length ca) := cellB hb (by simp [go_sem])
    clear hb
    go_wp2
    go_ret2
    exact ⟨_, rfl, OwnInts.nil _ _ _, hbw⟩
  · by_cases gt : timeOk t
    · obtain ⟨e1, e2⟩ := sound_yes g gt
      have T := Lib.hid (validTunB_iff.1 g).tones
      have GV := Lib.hid g; clear g
      have GT := Lib.hid gt
      obtain ⟨t0, t1⟩ := gt
      rw [e1, e2]; clear e1 e2
      go_enter Try.func32, Try.ntmps32
      go_wp2_with fail
      refine (l25Ok_any _ _ x _ ⟨by simp [go_sem], by simp [go_sem], hlv.mono (by (repeat (first | with_reducible exact Below.refl _ _ | with_reducible exact hbw | (with_reducible refine Below.setCell ?_ ?_ _; rotate_left; · first | exact Nat.le_refl _ | omega | (simp; done) | (simp; omega)) | (with_reducible refine Below.alloc ?_ ?_ _; rotate_left; · first | exact Nat.le_refl _ | omega | (simp; done) | (simp; omega)) | with_reducible refine below_drewN ?_ _ | with_reducible refine Below.drew ?_))), ok.1⟩).mono ?_
      rw [GV.out]
      rintro e w1 ⟨rfl, hb⟩
      have hbw : Below w.heap.size w w1 := Below.trans (by (repeat (first | with_reducible exact Below.refl _ _ | with_reducible exact hbw | (with_reducible refine Below.setCell ?_ ?_ _; rotate_left; · first | exact Nat.le_refl _ | omega | (simp; done) | (simp; omega)) | (with_reducible refine Below.alloc ?_ ?_ _; rotate_left; · first | exact Nat.le_refl _ | omega | (simp; done) | (simp; omega)) | with_reducible refine below_drewN ?_ _ | with_reducible refine Below.drew ?_))) (hb.mono (by simp <;> omega))
      have y1 : w1.cell? ⟨w.heap.size, 1, none⟩ = some (.slice a x.tones.length ca) := cellB hb (by simp [go_sem])
      clear hb
      have hlw := World.block_lt_of_cell? _ _ y1
      simp only at hlw
      go_wp2_with fail
      refine (l00In_any true _ _ _ _ (yesB GT.out)).mono ?_
      rintro e w2 ⟨rfl, rfl⟩
      go_wp2_with fail
      go_loopw [6, 7] (fun o i wr => ∃ (k : Nat) (ys : List Int) (a' : Option Addr) (c' : Nat), k ≤ x.tones.length ∧ i = .int .i64 k ∧ ys = notesOfL (sel (soundT t) (x.tones.take k)) ∧ o = .slice a' ys.length c' ∧ wr.ownsRow w.heap.size 2 1 (.slice a' ys.length c') ys.length (ys.map (Value.int .i64)) ∧ wr.cell? ⟨w.heap.size, 1, none⟩ = some (.slice a x.tones.length ca) ∧ w.heap.size < wr.heap.size ∧ Below w.heap.size w wr) (fun _ i _ => x.tones.length - (intOf i).toNat)
      case atStart => exact ⟨0, [], _, _, Nat.zero_le _, rfl, rfl, rfl, owns_empty _ _ 1 _ hbw.size, by simpa [go_sem, hlw] using y1, by simp; omega, by (repeat (first | with_reducible exact Below.refl _ _ | with_reducible exact hbw | (with_reducible refine Below.setCell ?_ ?_ _; rotate_left; · first | exact Nat.le_refl _ | omega | (simp; done) | (simp; omega)) | (with_reducible refine Below.alloc ?_ ?_ _; rotate_left; · first | exact Nat.le_refl _ | omega | (simp; done) | (simp; omega)) | with_reducible refine below_drewN ?_ _ | with_reducible refine Below.drew ?_))⟩
      case round =>
        obtain ⟨k, ys, a1, c1, hk, rfl, hys, rfl, ho, u1, hz, hb⟩ := hrel
        have HY := Lib.hid hys; clear hys
        by_cases hlt : k < x.tones.length
        · obtain ⟨b1, o1, rfl, hB1, u0, q1, q2⟩ := (hlv.mono hb).at hlt
          obtain ⟨f1, f2, f3, f4⟩ := (T.out k hlt hlt).1.fits
          have w1' : IntKind.i64.wrap (x.tones[k].start + x.tones[k].len) = x.tones[k].start + x.tones[k].len := IntWalk.i64_in _ (by omega)
          have hyl : ys.length ≤ 1048576 := by have := notesOfL_len (sel (soundT t) (x.tones.take k)); have := sel_len (soundT t) x.tones k; rw [← HY.out] at *; omega
          by_cases g1 : x.tones[k].start ≤ t
          · have d1 : decide (x.tones[k].start ≤ t) = true := by simpa using g1
            by_cases g2 : t < x.tones[k].start + x.tones[k].len
            · have d2 : decide (t < x.tones[k].start + x.tones[k].len) = true := by simpa using g2
              have S := Lib.hid (sel_yes (p := soundT t) hlt (by simp [soundT, g1, g2]))
              go_wp2_with fail
              go_quiet (fail)
              clear w1'
              go_wp2_with fail
              refine (l00Put_any _ ys x.tones[k].note (wr.drewN _) (Sl.of_owns (w := wr.drewN _) ho) (by omega)).mono ?_
              rintro e w2 ⟨v2, rfl, ho2, hb2⟩
              obtain ⟨a2, c2, rfl⟩ := owns_slice ho2
              have hb0 := Below.trans (below_drewN (Below.refl wr.heap.size wr) _) hb2
              have hb3 := hb.trans (hb0.mono hb.size)
              have hz2 := hb0.size
              have u3 := cellB hb0 u1
              go_wp2
              go_roundw
              case rel => exact ⟨k + 1, putI ys x.tones[k].note, a2, c2, by omega, by go_num, by rw [S.out, notesOfL_snoc, HY.out], rfl, owns_base ho2 hb.size, u3, by omega, hb3⟩
              case measure => simp [intOf] <;> omega
            · have d2 : decide (t < x.tones[k].start + x.tones[k].len) = false := by simpa using g2
              have S := Lib.hid (sel_no (p := soundT t) hlt (by simp [soundT, g1]; omega))
              go_wp2_with fail
              go_quiet (fail)
              clear w1'
              go_wp2
              go_roundw
              case rel => exact ⟨k + 1, ys, a1, c1, by omega, by go_num, by rw [S.out, HY.out], rfl, ho, u1, hz, below_drewN hb _⟩
              case measure => simp [intOf] <;> omega
          · have d1 : decide (x.tones[k].start ≤ t) = false := by simpa using g1
            have S := Lib.hid (sel_no (p := soundT t) hlt (by simp [soundT, g1]))
            go_wp2_with fail
            go_quiet (fail)
            clear w1'
            go_wp2
            go_roundw
            case rel => exact ⟨k + 1, ys, a1, c1, by omega, by go_num, by rw [S.out, HY.out], rfl, ho, u1, hz, below_drewN hb _⟩
            case measure => simp [intOf] <;> omega
        · have E := Lib.hid (show ys = notesOfL (sel (soundT t) x.tones) by rw [HY.out, sel_all _ _ (by omega)])
          go_wp2
          go_ret2
          exact ⟨_, rfl, by rw [← E.out]; exact OwnRow.mk' ho, hb⟩
    · obtain ⟨e1, e2⟩ := sound_rng g gt
      have GV := Lib.hid g; clear g
      have GT := Lib.hid gt; clear gt
      rw [e1, e2]; clear e1 e2
      go_enter Try.func32, Try.ntmps32
      go_wp2_with fail
      refine (l25Ok_any _ _ x _ ⟨by simp [go_sem], by simp [go_sem], hlv.mono (by (repeat (first | with_reducible exact Below.refl _ _ | with_reducible exact hbw | (with_reducible refine Below.setCell ?_ ?_ _; rotate_left; · first | exact Nat.le_refl _ | omega | (simp; done) | (simp; omega)) | (with_reducible refine Below.alloc ?_ ?_ _; rotate_left; · first | exact Nat.le_refl _ | omega | (simp; done) | (simp; omega)) | with_reducible refine below_drewN ?_ _ | with_reducible refine Below.drew ?_))), ok.1⟩).mono ?_
      rw [GV.out]
      rintro e w1 ⟨rfl, hb⟩
      have hbw : Below w.heap.size w w1 := Below.trans (by (repeat (first | with_reducible exact Below.refl _ _ | with_reducible exact hbw | (with_reducible refine Below.setCell ?_ ?_ _; rotate_left; · first | exact Nat.le_refl _ | omega | (simp; done) | (simp; omega)) | (with_reducible refine Below.alloc ?_ ?_ _; rotate_left; · first | exact Nat.le_refl _ | omega | (simp; done) | (simp; omega)) | with_reducible refine below_drewN ?_ _ | with_reducible refine Below.drew ?_))) (hb.mono (by simp <;> omega))
      have y1 : w1.cell? ⟨w.heap.size, 1, none⟩ = some (.slice a x.tones.length ca) := cellB hb (by simp [go_sem])
      clear hb
      go_wp2_with fail
      refine (l00In_any false _ _ _ _ (noB GT.out)).mono ?_
      rintro e w2 ⟨rfl, rfl⟩
      go_wp2
      go_ret2
      exact ⟨_, rfl, OwnInts.nil _ _ _, hbw⟩

end Go.Proofs.Ytfnbjegbaobpnaa
