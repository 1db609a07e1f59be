/- Contract of slices.Clone at tones. -/
import Derived.Test.YtfnbjegbaobpnaaOwnTun
set_option linter.unusedSimpArgs false
set_option linter.unnecessarySimpa false
set_option linter.unusedVariables false
set_option maxRecDepth 100000
namespace Go.Proofs.Ytfnbjegbaobpnaa
open Go.RowKit

set_option maxHeartbeats 400000 in
theorem cloneTon_any (v : Value) (xs : List Ton) (w : World) (h : Tons w v xs) (hs : xs.length ≤ 1048576) :
    Calls Try.prog 87 #[v] w fun e w' => ∃ v', e = .returned v' ∧ OwnRow w.heap.size w'.heap.size w' 55 3 v' xs.length (xs.flatMap Ton.cells) ∧ Below w.heap.size w w' := by
  obtain ⟨a, ca, rfl, hca, hcm, _⟩ := id h
  have en := fun w => Lib.run_eql_slice_nil (P := Try.prog) w 27 55 a xs.length ca 0 0 Try.underlying27
  rcases a with _ | ad
  · have hx : xs = [] := by
      rcases xs with _ | ⟨x, r⟩
      · rfl
      · obtain ⟨_, _, e, _⟩ := h.at (k := 0) (by simp); cases e
    subst hx
    simp only [List.length_nil] at en
    go_enter Try.func87, Try.ntmps87
    go_wp2
    go_ret
    exact ⟨_, rfl, ⟨owns_nil _ _ _ _, fun k hk => by simp [Value.ownBlock] at hk⟩, Below.refl _ _⟩
  · go_enter Try.func87, Try.ntmps87
    go_wp2_with (at_builtin; refine append_all rfl _ _ 27 rfl w.heap.size 55 _ 3 24 Try.underlying27 info_Tone rfl (by decide) (.slice (some ⟨w.heap.size, 0, none⟩) 0 0) 0 [] rfl (owns_empty w 55 3 _ (Nat.le_refl _)) (.slice (some ad) xs.length ca) xs.length (xs.flatMap Ton.cells) rfl (h.mono (by (repeat (first | with_reducible exact Below.refl _ _ | with_reducible exact hbw | (with_reducible refine Below.setCell ?_ ?_ _; rotate_left; · first | exact Nat.le_refl _ | omega | (simp; done) | (simp; omega)) | (with_reducible refine Below.alloc ?_ ?_ _; rotate_left; · first | exact Nat.le_refl _ | omega | (simp; done) | (simp; omega)) | with_reducible refine below_drewN ?_ _ | with_reducible refine Below.drew ?_)))) (Ton.len_cells xs) (Ton.one xs) (by omega) (by decide) (by simp) ?_)
    intro a' c' w1 ho hg hb
    go_wp2
    go_ret
    exact ⟨_, rfl, OwnRow.mk' (by simpa using ho), Below.trans (by (repeat (first | with_reducible exact Below.refl _ _ | with_reducible exact hbw | (with_reducible refine Below.setCell ?_ ?_ _; rotate_left; · first | exact Nat.le_refl _ | omega | (simp; done) | (simp; omega)) | (with_reducible refine Below.alloc ?_ ?_ _; rotate_left; · first | exact Nat.le_refl _ | omega | (simp; done) | (simp; omega)) | with_reducible refine below_drewN ?_ _ | with_reducible refine Below.drew ?_))) hb⟩

end Go.Proofs.Ytfnbjegbaobpnaa
