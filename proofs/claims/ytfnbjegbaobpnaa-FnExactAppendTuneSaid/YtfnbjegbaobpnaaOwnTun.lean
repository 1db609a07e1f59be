/- Contract of spec.l25Own. -/
import Derived.Test.YtfnbjegbaobpnaaDone
set_option linter.unusedSimpArgs false
set_option linter.unnecessarySimpa false
set_option linter.unusedVariables false
set_option maxRecDepth 100000
namespace Go.Proofs.Ytfnbjegbaobpnaa
open Go.RowKit

theorem Ton.one (xs : List Ton) : ∀ u ∈ xs.flatMap Ton.cells, u.oneCell' = true := by
  intro u hu
  obtain ⟨l, _, h⟩ := List.mem_flatMap.1 hu
  simp only [Ton.cells, List.mem_cons, List.not_mem_nil, or_false] at h
  rcases h with rfl | rfl | rfl <;> rfl

theorem owns_drew {w : World} {base : Nat} {e : TypeId} {size n : Nat} {v : Value} {cs : List Value} (h : w.ownsRow base e size v n cs) : w.drew.ownsRow base e size v n cs := h
theorem grown_setD {a w : World} {g : Nat} (h : a.grownBy w (some g)) (o : Nat) (u : Value) : a.grownBy (w.setCell ⟨g, o, none⟩ u) (some g) :=
  ⟨h.os, h.tape, h.output, by have := h.size; simpa [World.setCell] using this, fun k hk hne => (Below.heap_setCell _ _ _ _ (by intro e; apply hne; simp only at e; rw [e])).trans (h.block k hk hne)⟩
/-- A result that is an action and a code. -/
theorem grown_rowD {w w' : World} {row : Option Nat} (h : Below w.heap.size w.drew w') : w.drew.grownBy w' row := ⟨h.os, h.tape, h.output, h.size, fun k hk _ => h.block k hk⟩
theorem below_2drew {b : Nat} {w w' : World} {o : Obj} (hb : Below b (w.alloc o).drew w') (h : w.heap.size = b) : Below w.heap.size w.drew w' := ⟨hb.os, hb.tape, hb.output, by have := hb.size; simp at this ⊢; exact Nat.le_trans (Nat.le_succ _) this, fun k hk => (hb.block k (by omega)).trans ((belowA w o).block k hk)⟩

set_option maxHeartbeats 1000000 in
theorem l25Own_any (b : Nat) (lv : Value) (x : TunD) (w : World) (h : TunIn w b lv x) (hs : x.tones.length ≤ 1048576) :
    Calls Try.prog 65 #[.pointer (some ⟨b, 0, none⟩)] w fun e w' => ∃ v', e = .returned v' ∧ OwnTun w.heap.size w'.heap.size w' v' x ∧ Below w.heap.size w w' := by
  obtain ⟨c0, c1, hlv, hn⟩ := h
  have hlt := World.block_lt_of_cell? _ _ c0
  simp only at hlt
  have hlt1 : b < w.heap.size + 1 := by omega
  have hlt2 : b < w.heap.size + 1 + 1 := by omega
  have hlt3 : b < w.heap.size + 1 + 1 + 1 := by omega
  obtain ⟨a, ca, rfl, _⟩ := id hlv
  go_enter Try.func65, Try.ntmps65
  go_wp2_with fail
  have hne : ¬ b = w.heap.size := by omega
  refine wp_region_ordG [(0, 1), (1, 1), (2, 1), (3, 1), (5, 1), (6, 1), (7, 1), (8, 1), (4, 0), (9, 0), (10, 0), (11, 0)] [4, 9, 10, 11] (some w.heap.size) (by kernel_rfl) (by kernel_rfl) ?_
  (repeat ((first | with_reducible refine wpOrdG_soft (fun K hK => ?_) | with_reducible refine wpOrdG_pre (fun K hK => ?_)); simp only [List.getElem?_toArray, List.getElem?_cons_zero, List.getElem?_cons_succ]; first | (go_simp; refine hK _ ?_) | (simp only [undef]; go_simp; refine hK _ ?_); clear hK K))
  (with_reducible refine wpOrdG_hard ?_; simp only [List.getElem?_toArray, List.getElem?_cons_zero, List.getElem?_cons_succ])
  go_wp2_with fail
  refine And.intro (grown_drew2 (grown_row' (belowA _ _))) ?_
  (repeat ((first | with_reducible refine wpOrdG_soft (fun K hK => ?_) | with_reducible refine wpOrdG_pre (fun K hK => ?_)); simp only [List.getElem?_toArray, List.getElem?_cons_zero, List.getElem?_cons_succ]; first | (go_simp; refine hK _ ?_) | (simp only [undef]; go_simp; refine hK _ ?_); clear hK K))
  (with_reducible refine wpOrdG_hard ?_; simp only [List.getElem?_toArray, List.getElem?_cons_zero, List.getElem?_cons_succ])
  refine append_all rfl _ _ 27 rfl (w.heap.size + 1) 55 _ 3 24 Try.underlying27 info_Tone rfl (by decide) (.slice (some ⟨w.heap.size + 1, 0, none⟩) 0 0) 0 [] rfl (owns_drew (by simpa using owns_empty (w.alloc (.cells #[.string ⟨#[]⟩, .slice none 0 0] 29)) 55 3 (w.heap.size + 1) (by simp))) (.slice a x.tones.length ca) x.tones.length (x.tones.flatMap Ton.cells) rfl (hlv.mono (by (repeat (first | with_reducible exact Below.refl _ _ | with_reducible exact hbw | (with_reducible refine Below.setCell ?_ ?_ _; rotate_left; · first | exact Nat.le_refl _ | omega | (simp; done) | (simp; omega)) | (with_reducible refine Below.alloc ?_ ?_ _; rotate_left; · first | exact Nat.le_refl _ | omega | (simp; done) | (simp; omega)) | with_reducible refine below_drewN ?_ _ | with_reducible refine Below.drew ?_)))) (flat_len (f := Ton.cells) (m := 3) (fun _ => rfl) x.tones) (Ton.one x.tones) (by omega) (by decide) (by simp) ?_
  intro a' c' w1 ho hg hb
  have hbW := below_2drew hb (by simp)
  have hz := hbW.size
  simp at hz
  rw [Nat.zero_add, List.nil_append] at ho
  have y0 : w1.cell? ⟨w.heap.size, 0, none⟩ = some (.string ⟨#[]⟩) := cellL hb (by simp) (by simp [go_sem])
  have y1 : w1.cell? ⟨w.heap.size, 1, none⟩ = some (.slice none 0 0) := cellL hb (by simp) (by simp [go_sem])
  have f0 : w1.frozen? ⟨w.heap.size, 0, none⟩ = false := frozenL hb (by simp) (by simp [go_sem])
  have f1 : w1.frozen? ⟨w.heap.size, 1, none⟩ = false := frozenL hb (by simp) (by simp [go_sem])
  have HO := Lib.hid ho
  have hbw : Below w.heap.size w w1 := ((belowA w _).trans ((undrew hbW).mono (by simp)))
  have hzz : w.heap.size < w1.heap.size := by omega
  have G1 := Lib.hid (grown_rowD (row := some w.heap.size) hbW)
  clear ho hg hb hbW
  go_wp2_with fail
  refine And.intro G1.out ?_
  (repeat ((first | with_reducible refine wpOrdG_soft (fun K hK => ?_) | with_reducible refine wpOrdG_pre (fun K hK => ?_)); simp only [List.getElem?_toArray, List.getElem?_cons_zero, List.getElem?_cons_succ]; first | (go_simp; refine hK _ ?_) | (simp only [undef]; go_simp; refine hK _ ?_); clear hK K))
  (with_reducible refine wpOrdG_hard ?_; simp only [List.getElem?_toArray, List.getElem?_cons_zero, List.getElem?_cons_succ])
  go_wp2_with fail
  refine And.intro G1.out ?_
  (repeat ((first | with_reducible refine wpOrdG_soft (fun K hK => ?_) | with_reducible refine wpOrdG_pre (fun K hK => ?_)); simp only [List.getElem?_toArray, List.getElem?_cons_zero, List.getElem?_cons_succ]; first | (go_simp; refine hK _ ?_) | (simp only [undef]; go_simp; refine hK _ ?_); clear hK K))
  (with_reducible refine wpOrdG_hard ?_; simp only [List.getElem?_toArray, List.getElem?_cons_zero, List.getElem?_cons_succ])
  go_wp2_with fail
  refine And.intro (grown_setD (grown_setD G1.out _ _) _ _) ?_
  (with_reducible refine wpOrdG_nil ?_); refine NoPanic.normal ?_
  go_wp2
  refine bodyPost_ret (v := .agg #[.string x.name, .slice a' x.tones.length c']) (by simp [results, Try.results65, go_sem, hzz, y0, y1]) rfl ⟨_, rfl, ⟨_, rfl, ?_⟩, ?_⟩
  · refine ((OwnRow.mk' HO.out).touch (B' := w.heap.size) (E' := w.heap.size + 1) ?_ (Or.inr (Nat.le_refl _))).wide (by omega) (by simp)
    have htc := Touch.refl w.heap.size (w.heap.size + 1) w1
    (repeat (first | with_reducible exact Touch.refl _ _ _ | with_reducible exact htc | (with_reducible refine Touch.setCell ?_ ?_ _; rotate_left; · (simp only; omega)) | (with_reducible refine Touch.setNew ?_ ?_ _; rotate_left; · (first | (simp only; omega) | (simp; done) | (simp; omega))) | with_reducible refine Touch.alloc ?_ _ | with_reducible refine Touch.drewN ?_ _ | with_reducible refine Touch.drew ?_))
  · (repeat (first | with_reducible exact Below.refl _ _ | with_reducible exact hbw | (with_reducible refine Below.setCell ?_ ?_ _; rotate_left; · first | exact Nat.le_refl _ | omega | (simp; done) | (simp; omega)) | (with_reducible refine Below.alloc ?_ ?_ _; rotate_left; · first | exact Nat.le_refl _ | omega | (simp; done) | (simp; omega)) | with_reducible refine below_drewN ?_ _ | with_reducible refine Below.drew ?_))

end Go.Proofs.Ytfnbjegbaobpnaa
