/- Contracts of the copies of an action: slices.Clone of levers, copyAction, l24Own. -/
import Derived.Test.YtijhlllajddlpaaApp
import Derived.Test.YtijhlllajddlpaaOneAct
import Derived.Test.YtijhlllajddlpaaTouch
set_option linter.unusedSimpArgs false
set_option linter.unnecessarySimpa false
set_option linter.unusedVariables false
set_option maxRecDepth 100000
namespace Go.Proofs.Ytijhlllajddlpaa
open Go.RowKit

theorem OwnAct.row {B E : Nat} {w : World} {x : ActD} {a lv b c : Value} (h : OwnAct B E w (.agg #[a, lv, b, c]) x) : OwnRow B E w 51 2 lv x.levs.length (x.levs.flatMap Lev.cells) := by
  obtain ⟨l, e, h⟩ := h
  simp only [Value.agg.injEq, Array.mk.injEq, List.cons.injEq, and_true] at e
  obtain ⟨_, rfl, _⟩ := e
  exact h
theorem Lev.one (xs : List Lev) : ∀ u ∈ xs.flatMap Lev.cells, u.oneCell' = true := by
  intro u hu
  obtain ⟨l, _, h⟩ := List.mem_flatMap.1 hu
  simp only [Lev.cells, List.mem_cons, List.not_mem_nil, or_false] at h
  rcases h with rfl | rfl <;> rfl

set_option maxHeartbeats 400000 in
theorem cloneLev_any (v : Value) (xs : List Lev) (w : World) (h : Levs w v xs) (hs : xs.length ≤ 1048576) :
    Calls Try.prog 47 #[v] w fun e w' => ∃ v', e = .returned v' ∧ OwnRow w.heap.size w'.heap.size w' 51 2 v' xs.length (xs.flatMap Lev.cells) ∧ Below w.heap.size w w' := by
  obtain ⟨a, ca, rfl, hca, hcm, _⟩ := id h
  have en := fun w => Lib.run_eql_slice_nil (P := Try.prog) w 28 51 a xs.length ca 0 0 Try.underlying28
  rcases a with _ | ad
  · have hx : xs = [] := by
      rcases xs with _ | ⟨x, r⟩
      · rfl
      · obtain ⟨_, _, e, _⟩ := h.at (k := 0) (by simp); cases e
    subst hx
    simp only [List.length_nil] at en
    go_enter Try.func47, Try.ntmps47
    go_wp2
    go_ret
    exact ⟨_, rfl, ⟨owns_nil _ _ _ _, fun k hk => by simp [Value.ownBlock] at hk⟩, Below.refl _ _⟩
  · go_enter Try.func47, Try.ntmps47
    go_wp2_with (at_builtin; refine append_all rfl _ _ 28 rfl w.heap.size 51 _ 2 16 Try.underlying28 info_Lever rfl (by decide) (.slice (some ⟨w.heap.size, 0, none⟩) 0 0) 0 [] rfl (owns_empty w 51 2 _ (Nat.le_refl _)) (.slice (some ad) xs.length ca) xs.length (xs.flatMap Lev.cells) rfl (h.mono (by (repeat (first | with_reducible exact Below.refl _ _ | with_reducible exact hbw | (with_reducible refine Below.setCell ?_ ?_ _; rotate_left; · first | exact Nat.le_refl _ | omega | (simp; done) | (simp; omega)) | (with_reducible refine Below.alloc ?_ ?_ _; rotate_left; · first | exact Nat.le_refl _ | omega | (simp; done) | (simp; omega)) | with_reducible refine below_drewN ?_ _ | with_reducible refine Below.drew ?_)))) (Lev.len_cells xs) (Lev.one xs) (by omega) (by decide) (by simp) ?_)
    intro a' c' w1 ho hg hb
    go_wp2
    go_ret
    exact ⟨_, rfl, OwnRow.mk' (by simpa using ho), Below.trans (by (repeat (first | with_reducible exact Below.refl _ _ | with_reducible exact hbw | (with_reducible refine Below.setCell ?_ ?_ _; rotate_left; · first | exact Nat.le_refl _ | omega | (simp; done) | (simp; omega)) | (with_reducible refine Below.alloc ?_ ?_ _; rotate_left; · first | exact Nat.le_refl _ | omega | (simp; done) | (simp; omega)) | with_reducible refine below_drewN ?_ _ | with_reducible refine Below.drew ?_))) hb⟩

set_option maxHeartbeats 400000 in
theorem copyAct_any (v : Value) (x : ActD) (w : World) (h : RdAct w v x) (hs : x.levs.length ≤ 1048576) :
    Calls Try.prog 30 #[v] w fun e w' => ∃ v', e = .returned v' ∧ OwnAct w.heap.size w'.heap.size w' v' x ∧ Below w.heap.size w w' := by
  obtain ⟨lv, rfl, hlv⟩ := h
  go_enter Try.func30, Try.ntmps30
  go_wp2_with fail
  refine (cloneLev_any lv x.levs _ (hlv.mono (by (repeat (first | with_reducible exact Below.refl _ _ | with_reducible exact hbw | (with_reducible refine Below.setCell ?_ ?_ _; rotate_left; · first | exact Nat.le_refl _ | omega | (simp; done) | (simp; omega)) | (with_reducible refine Below.alloc ?_ ?_ _; rotate_left; · first | exact Nat.le_refl _ | omega | (simp; done) | (simp; omega)) | with_reducible refine below_drewN ?_ _ | with_reducible refine Below.drew ?_)))) hs).mono ?_
  rintro e w1 ⟨lv', rfl, ho, hb⟩
  obtain ⟨a', cap', rfl⟩ := ho.form
  obtain ⟨hc, hf⟩ := bcell hb
  have hz : w.heap.size + 1 + 1 ≤ w1.heap.size := by have := hb.size; simp at this; omega
  have y0 : w1.cell? ⟨w.heap.size, 0, none⟩ = some (.int .i64 x.note) := cellB hb (by simp [go_sem])
  have y1 : w1.cell? ⟨w.heap.size, 1, none⟩ = some lv := cellB hb (by simp [go_sem])
  have y2 : w1.cell? ⟨w.heap.size, 2, none⟩ = some (.int .i64 x.slack) := cellB hb (by simp [go_sem])
  have y3 : w1.cell? ⟨w.heap.size, 3, none⟩ = some (.int .i64 x.weight) := cellB hb (by simp [go_sem])
  go_wp2
  refine bodyPost_ret (v := .agg #[.int .i64 x.note, .slice a' x.levs.length cap', .int .i64 x.slack, .int .i64 x.weight]) (by simp [results, Try.results30, go_sem, hc, hz]) rfl ⟨_, rfl, ?_, ?_⟩
  · exact ⟨_, rfl, ((((((ho.setCell (by simp; omega) _).setCell (by simp) _).setCell (by simp) _).setCell (by simp) _).setCell (by simp) _).wide (by simp <;> omega) (by simp))⟩
  · have hbw : Below w.heap.size w w1 := Below.trans (by (repeat (first | with_reducible exact Below.refl _ _ | with_reducible exact hbw | (with_reducible refine Below.setCell ?_ ?_ _; rotate_left; · first | exact Nat.le_refl _ | omega | (simp; done) | (simp; omega)) | (with_reducible refine Below.alloc ?_ ?_ _; rotate_left; · first | exact Nat.le_refl _ | omega | (simp; done) | (simp; omega)) | with_reducible refine below_drewN ?_ _ | with_reducible refine Below.drew ?_))) (hb.mono (by simp <;> omega))
    (repeat (first | with_reducible exact Below.refl _ _ | with_reducible exact hbw | (with_reducible refine Below.setCell ?_ ?_ _; rotate_left; · first | exact Nat.le_refl _ | omega | (simp; done) | (simp; omega)) | (with_reducible refine Below.alloc ?_ ?_ _; rotate_left; · first | exact Nat.le_refl _ | omega | (simp; done) | (simp; omega)) | with_reducible refine below_drewN ?_ _ | with_reducible refine Below.drew ?_))

end Go.Proofs.Ytijhlllajddlpaa
