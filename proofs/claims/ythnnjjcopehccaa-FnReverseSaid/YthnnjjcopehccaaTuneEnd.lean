/- Contracts of the tune's end of both packages. -/
import Derived.Test.YthnnjjcopehccaaValidTunI
import Derived.Test.YthnnjjcopehccaaTunL
set_option linter.unusedSimpArgs false
set_option linter.unnecessarySimpa false
set_option linter.unusedVariables false
namespace Go.Proofs.Ythnnjjcopehccaa
open Go.RowKit

def endOf (xs : List Ton) : Int := xs.foldl (fun e x => max e (x.start + x.len)) 0
theorem endOf_zero (xs : List Ton) : endOf (xs.take 0) = 0 := rfl
theorem endOf_step (xs : List Ton) {k : Nat} (h : k < xs.length) : endOf (xs.take (k + 1)) = max (endOf (xs.take k)) (xs[k].start + xs[k].len) := by
  unfold endOf
  rw [List.take_succ_eq_append_getElem h, List.foldl_append]
  rfl
theorem endOf_all (xs : List Ton) {k : Nat} (h : xs.length ≤ k) : endOf (xs.take k) = endOf xs := by rw [List.take_of_length_le h]

set_option maxHeartbeats 1000000 in
theorem tuneEnd_any (v lv : Value) (x : TunD) (w : World) (h : Tun w v lv x) (ok : TonesOk x.tones) :
    Calls Try.prog 10 #[v] w fun e w' => e = .returned (.int .i64 (endOf x.tones)) ∧ Below w.heap.size w w' := by
  obtain ⟨rfl, hlv⟩ := h
  obtain ⟨a, ca, rfl, hca, hcm, _⟩ := id hlv
  have hm : x.tones.length ≤ maxLen := by omega
  clear hca hcm
  unfold maxLen at hm
  have ok := Lib.hid ok
  go_enter Try.func10, Try.ntmps10
  go_wp2_with fail
  go_loopw [3, 9, 5] (fun v i _ wr => ∃ k : Nat, k ≤ x.tones.length ∧ i = .int .i64 k ∧ v = .int .i64 (endOf (x.tones.take k)) ∧ Below w.heap.size w wr) (fun _ i _ _ => x.tones.length - (intOf i).toNat)
  case atStart => exact ⟨0, Nat.zero_le _, rfl, rfl, by (repeat (first | with_reducible exact Below.refl _ _ | with_reducible exact hbw | (with_reducible refine Below.setCell ?_ ?_ _; rotate_left; · first | exact Nat.le_refl _ | omega | (simp; done) | (simp; omega)) | (with_reducible refine Below.alloc ?_ ?_ _; rotate_left; · first | exact Nat.le_refl _ | omega | (simp; done) | (simp; omega)) | with_reducible refine below_drewN ?_ _ | with_reducible refine Below.drew ?_))⟩
  case round =>
    obtain ⟨k, hk, rfl, rfl, hb⟩ := hrel
    by_cases hlt : k < x.tones.length
    · obtain ⟨b1, o1, rfl, hB1, c0, c1, c2⟩ := (hlv.mono hb).at hlt
      obtain ⟨f1, f2, f3, f4⟩ := (ok.out k hlt hlt).1.fits
      have w1' : IntKind.i64.wrap (x.tones[k].start + x.tones[k].len) = x.tones[k].start + x.tones[k].len := IntWalk.i64_in _ (by omega)
      clear f1 f2 f3 f4
      have l1 : b1 < wr.heap.size + 1 := by omega
      go_wp2
      clear w1'
      go_roundw
      case rel => exact ⟨k + 1, by omega, by go_num, by rw [endOf_step _ hlt]; congr 1; split <;> omega, hb.trans (Below.mono (B := wr.heap.size) (by (repeat (first | with_reducible exact Below.refl _ _ | with_reducible exact hbw | (with_reducible refine Below.setCell ?_ ?_ _; rotate_left; · first | exact Nat.le_refl _ | omega | (simp; done) | (simp; omega)) | (with_reducible refine Below.alloc ?_ ?_ _; rotate_left; · first | exact Nat.le_refl _ | omega | (simp; done) | (simp; omega)) | with_reducible refine below_drewN ?_ _ | with_reducible refine Below.drew ?_))) hb.size)⟩
      case measure => simp [intOf]; omega
    · rw [endOf_all _ (show x.tones.length ≤ k by omega)]
      go_wp2
      go_ret
      exact ⟨rfl, hb⟩

noncomputable def tuneEndV (x : TunD) : Int := if validTunB x then endOf x.tones else 0
noncomputable def tuneEndC (x : TunD) : Int := if validTunB x then 0 else 1
theorem implTuneEnd_any (v : Value) (x : TunD) (w : World) (h : RdTun w v x) (ok : x.ok) (_ : x.tones.length ≤ 1048576) :
    Calls Try.prog 6 #[v] w fun e w' => e = .returned (.tuple #[.int .i64 (tuneEndV x), .int .i64 (tuneEndC x)]) ∧ Below w.heap.size w w' := by
  obtain ⟨lv, rfl, hlv⟩ := h
  unfold tuneEndV tuneEndC
  by_cases g : TunOk x
  · have g' := validTunB_iff.2 g
    have T := Lib.hid g.tones
    clear g
    rw [g']
    go_enter Try.func6, Try.ntmps6
    go_wp2_with fail
    refine (implValidTun_any _ lv x _ ⟨rfl, hlv.mono (by (repeat (first | with_reducible exact Below.refl _ _ | with_reducible exact hbw | (with_reducible refine Below.setCell ?_ ?_ _; rotate_left; · first | exact Nat.le_refl _ | omega | (simp; done) | (simp; omega)) | (with_reducible refine Below.alloc ?_ ?_ _; rotate_left; · first | exact Nat.le_refl _ | omega | (simp; done) | (simp; omega)) | with_reducible refine below_drewN ?_ _ | with_reducible refine Below.drew ?_)))⟩ ok.1).mono ?_
    rw [g']
    rintro e w1 ⟨rfl, hb⟩
    have hbw : Below w.heap.size w w1 := Below.trans (by (repeat (first | with_reducible exact Below.refl _ _ | with_reducible exact hbw | (with_reducible refine Below.setCell ?_ ?_ _; rotate_left; · first | exact Nat.le_refl _ | omega | (simp; done) | (simp; omega)) | (with_reducible refine Below.alloc ?_ ?_ _; rotate_left; · first | exact Nat.le_refl _ | omega | (simp; done) | (simp; omega)) | with_reducible refine below_drewN ?_ _ | with_reducible refine Below.drew ?_))) (hb.mono (by simp <;> omega))
    have y0 : w1.cell? ⟨w.heap.size, 0, none⟩ = some (.string x.name) := cellB hb (by simp [go_sem])
    have y1 : w1.cell? ⟨w.heap.size, 1, none⟩ = some lv := cellB hb (by simp [go_sem])
    go_wp2_with fail
    refine (tuneEnd_any _ lv x _ ⟨rfl, hlv.mono hbw⟩ T.out).mono ?_
    rintro e w2 ⟨rfl, hb2⟩
    have hbw := hbw.trans (hb2.mono hbw.size)
    go_wp2
    go_ret2
    exact ⟨rfl, hbw⟩
  · have g' : validTunB x = false := by rw [← Bool.not_eq_true, validTunB_iff]; exact g
    rw [g']
    clear g
    go_enter Try.func6, Try.ntmps6
    go_wp2_with fail
    refine (implValidTun_any _ lv x _ ⟨rfl, hlv.mono (by (repeat (first | with_reducible exact Below.refl _ _ | with_reducible exact hbw | (with_reducible refine Below.setCell ?_ ?_ _; rotate_left; · first | exact Nat.le_refl _ | omega | (simp; done) | (simp; omega)) | (with_reducible refine Below.alloc ?_ ?_ _; rotate_left; · first | exact Nat.le_refl _ | omega | (simp; done) | (simp; omega)) | with_reducible refine below_drewN ?_ _ | with_reducible refine Below.drew ?_)))⟩ ok.1).mono ?_
    rw [g']
    rintro e w1 ⟨rfl, hb⟩
    have hbw : Below w.heap.size w w1 := Below.trans (by (repeat (first | with_reducible exact Below.refl _ _ | with_reducible exact hbw | (with_reducible refine Below.setCell ?_ ?_ _; rotate_left; · first | exact Nat.le_refl _ | omega | (simp; done) | (simp; omega)) | (with_reducible refine Below.alloc ?_ ?_ _; rotate_left; · first | exact Nat.le_refl _ | omega | (simp; done) | (simp; omega)) | with_reducible refine below_drewN ?_ _ | with_reducible refine Below.drew ?_))) (hb.mono (by simp <;> omega))
    go_wp2
    go_ret2
    exact ⟨rfl, hbw⟩

end Go.Proofs.Ythnnjjcopehccaa
