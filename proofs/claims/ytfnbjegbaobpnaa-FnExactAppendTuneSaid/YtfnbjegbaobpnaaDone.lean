/- Contract of spec.l25Done. -/
import Derived.Test.YtfnbjegbaobpnaaTuneOf
set_option linter.unusedSimpArgs false
set_option linter.unnecessarySimpa false
set_option linter.unusedVariables false
set_option maxRecDepth 100000
namespace Go.Proofs.Ytfnbjegbaobpnaa
open Go.RowKit

set_option maxHeartbeats 1000000 in
theorem l25Done_any (B : Nat) (v lv : Value) (x : TunD) (w : World) (h : v = .agg #[.string x.name, lv]) (ho : OwnRow B w.heap.size w 55 3 lv x.tones.length (x.tones.flatMap Ton.cells)) (hn : x.name.size ≤ maxLen) (hB : B ≤ w.heap.size) (hs : Srt x.tones) :
    Calls Try.prog 66 #[v] w fun e w' => ∃ v', e = .returned (.tuple #[v', .int .i64 (toC x.name x.tones)]) ∧ OwnTun B w'.heap.size w' v' (toV x.name x.tones) ∧ Below w.heap.size w w' := by
  subst h
  obtain ⟨a, ca, rfl⟩ := ho.form
  have hlv : Tons w (.slice a x.tones.length ca) x.tones := Tons.of_owns ho.1
  have HO := Lib.hid ho; have HS := Lib.hid hs; clear hs
  go_enter Try.func66, Try.ntmps66
  go_wp2_with fail
  refine (l25Ok_any _ _ x _ ⟨by simp [go_sem], by simp [go_sem], hlv.mono (by (repeat (first | with_reducible exact Below.refl _ _ | with_reducible exact hbw | (with_reducible refine Below.setCell ?_ ?_ _; rotate_left; · first | exact Nat.le_refl _ | omega | (simp; done) | (simp; omega)) | (with_reducible refine Below.alloc ?_ ?_ _; rotate_left; · first | exact Nat.le_refl _ | omega | (simp; done) | (simp; omega)) | with_reducible refine below_drewN ?_ _ | with_reducible refine Below.drew ?_))), hn⟩).mono ?_
  rintro e w2 ⟨rfl, hb⟩
  have y0 : w2.cell? ⟨w.heap.size, 0, none⟩ = some (.string x.name) := cellB hb (by simp [go_sem])
  have y1 : w2.cell? ⟨w.heap.size, 1, none⟩ = some (.slice a x.tones.length ca) := cellB hb (by simp [go_sem])
  have r0 : w2.cell? ⟨w.heap.size + 1, 0, none⟩ = some (.string ⟨#[]⟩) := cellB hb (by simp [go_sem])
  have r1 : w2.cell? ⟨w.heap.size + 1, 1, none⟩ = some (.slice none 0 0) := cellB hb (by simp [go_sem])
  have f0 : w2.frozen? ⟨w.heap.size + 1, 0, none⟩ = false := frozenL hb (by simp) (by simp [go_sem])
  have f1 : w2.frozen? ⟨w.heap.size + 1, 1, none⟩ = false := frozenL hb (by simp) (by simp [go_sem])
  have hz : w.heap.size + 2 ≤ w2.heap.size := by have := hb.size; simp at this; omega
  have hz1 : w.heap.size < w2.heap.size := by omega
  have hz2 : w.heap.size + 1 < w2.heap.size := by omega
  have hbw : Below w.heap.size w w2 := Below.trans (by (repeat (first | with_reducible exact Below.refl _ _ | with_reducible exact hbw | (with_reducible refine Below.setCell ?_ ?_ _; rotate_left; · first | exact Nat.le_refl _ | omega | (simp; done) | (simp; omega)) | (with_reducible refine Below.alloc ?_ ?_ _; rotate_left; · first | exact Nat.le_refl _ | omega | (simp; done) | (simp; omega)) | with_reducible refine below_drewN ?_ _ | with_reducible refine Below.drew ?_))) (hb.mono (by simp <;> omega))
  have HO2 := Lib.hid (HO.out.mono hbw)
  clear hb
  by_cases hv : validTunB x = true
  · obtain ⟨e1, e2⟩ := to_yes (name := x.name) (List.Perm.refl x.tones) HS.out hv
    have E1 := Lib.hid e1; have E2 := Lib.hid e2
    rw [hv]
    clear e1 e2 hv
    go_wp2
    refine bodyPost_ret (v := .tuple #[.agg #[.string x.name, .slice a x.tones.length ca], .int .i64 0]) (by simp [results, Try.results66, go_sem, hz1, hz2, r0, r1]) rfl ⟨_, by rw [E2.out], ?_, ?_⟩
    · rw [E1.out]
      refine ⟨_, rfl, ?_⟩
      refine (HO2.out.touch (B' := w.heap.size) (E' := w.heap.size + 2) ?_ (Or.inl (Nat.le_refl _))).wide (Nat.le_refl _) (by simp; omega)
      have htc := Touch.refl w.heap.size (w.heap.size + 2) w2
      (repeat (first | with_reducible exact Touch.refl _ _ _ | with_reducible exact htc | (with_reducible refine Touch.setCell ?_ ?_ _; rotate_left; · (simp only; omega)) | (with_reducible refine Touch.setNew ?_ ?_ _; rotate_left; · (first | (simp only; omega) | (simp; done) | (simp; omega))) | with_reducible refine Touch.alloc ?_ _ | with_reducible refine Touch.drewN ?_ _ | with_reducible refine Touch.drew ?_))
    · (repeat (first | with_reducible exact Below.refl _ _ | with_reducible exact hbw | (with_reducible refine Below.setCell ?_ ?_ _; rotate_left; · first | exact Nat.le_refl _ | omega | (simp; done) | (simp; omega)) | (with_reducible refine Below.alloc ?_ ?_ _; rotate_left; · first | exact Nat.le_refl _ | omega | (simp; done) | (simp; omega)) | with_reducible refine below_drewN ?_ _ | with_reducible refine Below.drew ?_))
  · have hv' : validTunB x = false := by simpa using hv
    obtain ⟨e1, e2⟩ := to_no (name := x.name) (List.Perm.refl x.tones) HS.out hv'
    have E1 := Lib.hid e1; have E2 := Lib.hid e2
    rw [hv']
    clear e1 e2 hv hv'
    go_wp2
    refine bodyPost_ret (v := .tuple #[.agg #[.string ⟨#[]⟩, .slice none 0 0], .int .i64 6]) (by simp [results, Try.results66, go_sem, hz1, hz2, r0, r1]) rfl ⟨_, by rw [E2.out], by rw [E1.out]; exact ownT_zero _ _ _, ?_⟩
    (repeat (first | with_reducible exact Below.refl _ _ | with_reducible exact hbw | (with_reducible refine Below.setCell ?_ ?_ _; rotate_left; · first | exact Nat.le_refl _ | omega | (simp; done) | (simp; omega)) | (with_reducible refine Below.alloc ?_ ?_ _; rotate_left; · first | exact Nat.le_refl _ | omega | (simp; done) | (simp; omega)) | with_reducible refine below_drewN ?_ _ | with_reducible refine Below.drew ?_))

end Go.Proofs.Ytfnbjegbaobpnaa
