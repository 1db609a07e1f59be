/- Contract of mapped, for a function value that captures one or two variables. -/
import Derived.Test.YthnnjjcopehccaaTuneOf
set_option linter.unusedSimpArgs false
set_option linter.unnecessarySimpa false
set_option linter.unusedVariables false
set_option maxRecDepth 100000
namespace Go.Proofs.Ythnnjjcopehccaa
open Go.RowKit

theorem map_snoc (xs : List Ton) (F : Ton → Ton) (k : Nat) (hk : k < xs.length) : ((xs.map F).take (k + 1)).flatMap Ton.cells = ((xs.map F).take k).flatMap Ton.cells ++ [.int .i64 (F xs[k]).note, .int .i64 (F xs[k]).start, .int .i64 (F xs[k]).len] := by
  rw [← List.map_take, ← List.map_take, List.take_succ_eq_append_getElem hk, List.map_append, List.flatMap_append]; rfl

set_option maxHeartbeats 1000000 in
theorem mapped1_any (N : Nat) (p : Value) (F : Ton → Ton) (v lv : Value) (x : TunD) (w : World) (h : Tun w v lv x) (hs : x.name.size ≤ maxLen) (hl : x.tones.length ≤ 1000000)
    (hN : ∀ args w, Sem.run Try.prog (callFunc N args) w = .ok (.enter N args) w)
    (hF : ∀ k (hk : k < x.tones.length) (w1 : World), Below w.heap.size w w1 → Calls Try.prog N #[.agg #[.int .i64 x.tones[k].note, .int .i64 x.tones[k].start, .int .i64 x.tones[k].len], p] w1 fun e w2 => e = .returned (.agg #[.int .i64 (F x.tones[k]).note, .int .i64 (F x.tones[k]).start, .int .i64 (F x.tones[k]).len]) ∧ Below w1.heap.size w1 w2) :
    Calls Try.prog 11 #[v, .func (.func N) #[] #[p]] w fun e w' => ∃ v', e = .returned (.tuple #[v', .int .i64 (toC x.name (x.tones.map F))]) ∧ OwnTun w.heap.size w'.heap.size w' v' (toV x.name (x.tones.map F)) ∧ Below w.heap.size w w' := by
  obtain ⟨rfl, hlv⟩ := h
  obtain ⟨a, ca, rfl, hca, hcm, _⟩ := id hlv
  have HF := Lib.hid hF; clear hF
  go_enter Try.func11, Try.ntmps11
  go_wp2_with fail
  go_loopw [12, 6] (fun i tv wr => ∃ (k : Nat) (a' : Option Addr) (cap' : Nat), k ≤ x.tones.length ∧ i = .int .i64 (k : Int) ∧ tv = .slice a' k cap' ∧ wr.ownsRow (w.heap.size + 2) 30 3 (.slice a' k cap') k (((x.tones.map F).take k).flatMap Ton.cells) ∧ Below w.heap.size w wr ∧ w.heap.size + 2 ≤ wr.heap.size ∧ wr.cell? ⟨w.heap.size, 0, none⟩ = some (.string x.name) ∧ wr.cell? ⟨w.heap.size + 1, 0, none⟩ = some (.string ⟨#[]⟩) ∧ wr.cell? ⟨w.heap.size + 1, 1, none⟩ = some (.slice none 0 0) ∧ wr.frozen? ⟨w.heap.size + 1, 0, none⟩ = false ∧ wr.frozen? ⟨w.heap.size + 1, 1, none⟩ = false) (fun i tv _ => x.tones.length - (intOf i).toNat)
  case atStart => exact ⟨0, none, 0, Nat.zero_le _, by go_num, rfl, by simpa using owns_nil _ _ _ _, by (repeat (first | with_reducible exact Below.refl _ _ | with_reducible exact hbw | (with_reducible refine Below.setCell ?_ ?_ _; rotate_left; · first | exact Nat.le_refl _ | omega | (simp; done) | (simp; omega)) | (with_reducible refine Below.alloc ?_ ?_ _; rotate_left; · first | exact Nat.le_refl _ | omega | (simp; done) | (simp; omega)) | with_reducible refine below_drewN ?_ _ | with_reducible refine Below.drew ?_)), by simp, by simp [go_sem], by simp [go_sem], by simp [go_sem], by simp [go_sem], by simp [go_sem]⟩
  case round =>
    obtain ⟨k, a', cap', hk, rfl, rfl, ho, hb, hz, y0, r0, r1, f0, f1⟩ := hrel
    have HO := Lib.hid ho; clear ho
    by_cases hlt : k < x.tones.length
    · obtain ⟨b1, o1, rfl, hB1, c0, c1, c2⟩ := (hlv.mono hb).at hlt
      have l1 : b1 < wr.heap.size + 1 := by omega
      go_wp2_with fail
      refine (HF.out k hlt _ ?_).mono ?_
      · have hbw := hb
        (repeat (first | with_reducible exact Below.refl _ _ | with_reducible exact hbw | (with_reducible refine Below.setCell ?_ ?_ _; rotate_left; · first | exact Nat.le_refl _ | omega | (simp; done) | (simp; omega)) | (with_reducible refine Below.alloc ?_ ?_ _; rotate_left; · first | exact Nat.le_refl _ | omega | (simp; done) | (simp; omega)) | with_reducible refine below_drewN ?_ _ | with_reducible refine Below.drew ?_))
      rintro e w1 ⟨rfl, hb1⟩
      have hb2 : Below wr.heap.size wr w1 := Below.trans (by (repeat (first | with_reducible exact Below.refl _ _ | with_reducible exact hbw | (with_reducible refine Below.setCell ?_ ?_ _; rotate_left; · first | exact Nat.le_refl _ | omega | (simp; done) | (simp; omega)) | (with_reducible refine Below.alloc ?_ ?_ _; rotate_left; · first | exact Nat.le_refl _ | omega | (simp; done) | (simp; omega)) | with_reducible refine below_drewN ?_ _ | with_reducible refine Below.drew ?_))) (hb1.mono (by simp <;> omega))
      have hz1 : wr.heap.size + 1 ≤ w1.heap.size := by have := hb1.size; simp at this; omega
      have i0 : w1.cell? ⟨wr.heap.size, 0, none⟩ = some (.int .i64 x.tones[k].note) := cellB hb1 (by simp [go_sem])
      have y0 := cellB hb2 y0
      have r0 := cellB hb2 r0
      have r1 := cellB hb2 r1
      have f0 := frozenL hb2 (by simp; omega) f0
      have f1 := frozenL hb2 (by simp; omega) f1
      have hoX := owns_mono HO.out hb2
      have hbX := hb.trans (hb2.mono hb.size)
      have HBX := Lib.hid hbX
      clear hb1 hb2 hbX
      go_wp2_with (at_builtin; refine append_one_at rfl _ _ 23 rfl (w.heap.size + 2) 30 _ 3 24 Try.underlying23 info_Tone rfl (by decide) _ k _ rfl hoX [.int .i64 (F x.tones[k]).note, .int .i64 (F x.tones[k]).start, .int .i64 (F x.tones[k]).len] rfl (by intro u hu; simp at hu; rcases hu with rfl | rfl | rfl <;> rfl) w1.heap.size (by simp) rfl (by omega) (by decide) (by omega) ?_)
      intro a5 cap5 w5 ho5 hg5 hb5 hat5
      have hz5 := hb5.size
      have y0 := cellL hb5 (by simp) y0
      have r0 := cellL hb5 (by simp) r0
      have r1 := cellL hb5 (by simp) r1
      have f0 := frozenL hb5 (by simp) f0
      have f1 := frozenL hb5 (by simp) f1
      have HB5 := Lib.hid (HBX.out.trans (hb5.mono (by omega)))
      have HO5 := Lib.hid ho5
      clear hb5 ho5 hg5 hat5
      go_wp2
      go_roundw
      case rel => exact ⟨k + 1, a5, cap5, by omega, by go_num, rfl, by rw [map_snoc _ F k hlt]; exact HO5.out, HB5.out, by omega, y0, r0, r1, f0, f1⟩
      case measure => simp [intOf] <;> omega
    · obtain rfl : k = x.tones.length := by omega
      have e0 : (x.tones.map F).take x.tones.length = x.tones.map F := List.take_of_length_le (by simp)
      have ho := HO.out
      rw [e0] at ho
      have HO2 := Lib.hid ho; clear ho e0
      go_wp2_with fail
      refine (tuneOf_any (w.heap.size + 2) x.tones.length x.name _ (x.tones.map F) _ (OwnRow.mk' HO2.out) (by simp) hl hs hz).mono ?_
      rintro e w1 ⟨v1, rfl, ho1, ht⟩
      obtain ⟨c1, cap1, rfl⟩ := ho1.form
      have hz1 := ht.size
      have r0 := cellT ht r0 (Or.inl (by simp))
      have r1 := cellT ht r1 (Or.inl (by simp))
      have f0 := touch_frozen ht (by simp; omega) (Or.inl (by simp)) f0
      have f1 := touch_frozen ht (by simp; omega) (Or.inl (by simp)) f1
      have hb1 : Below w.heap.size w w1 := ht.below (b := w.heap.size) hb (by omega) hb.size
      have HO1 := Lib.hid ho1
      have hz3 : w.heap.size + 1 < w1.heap.size := by omega
      clear ho1 ht hb
      go_wp2
      refine bodyPost_ret (v := .tuple #[.agg #[.string (toV x.name (x.tones.map F)).name, .slice c1 (toV x.name (x.tones.map F)).tones.length cap1], .int .i64 (toC x.name (x.tones.map F))]) (by simp [results, Try.results11, go_sem, hz3, r0, r1]) rfl ⟨_, rfl, ?_, ?_⟩
      · refine (HO1.out.touch (B' := w.heap.size + 1) (E' := w.heap.size + 2) ?_ (Or.inr (Nat.le_refl _))).wide (by omega) (by simp)
        have htc := Touch.refl (w.heap.size + 1) (w.heap.size + 2) w1
        (repeat (first | with_reducible exact Touch.refl _ _ _ | with_reducible exact htc | (with_reducible refine Touch.setCell ?_ ?_ _; rotate_left; · (simp only; omega)) | (with_reducible refine Touch.setNew ?_ ?_ _; rotate_left; · (first | (simp only; omega) | (simp; done) | (simp; omega))) | with_reducible refine Touch.alloc ?_ _ | with_reducible refine Touch.drewN ?_ _ | with_reducible refine Touch.drew ?_))
      · have hbw := hb1
        (repeat (first | with_reducible exact Below.refl _ _ | with_reducible exact hbw | (with_reducible refine Below.setCell ?_ ?_ _; rotate_left; · first | exact Nat.le_refl _ | omega | (simp; done) | (simp; omega)) | (with_reducible refine Below.alloc ?_ ?_ _; rotate_left; · first | exact Nat.le_refl _ | omega | (simp; done) | (simp; omega)) | with_reducible refine below_drewN ?_ _ | with_reducible refine Below.drew ?_))

end Go.Proofs.Ythnnjjcopehccaa
