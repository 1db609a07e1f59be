/- SameAction of both packages. -/
import Derived.Test.YtjmapbgbmgaljaaAct
set_option linter.unusedSimpArgs false
set_option linter.unusedVariables false
namespace Go.Proofs.Ytjmapbgbmgaljaa
open Go.RowKit

theorem same_true {x y : ActD} (h1 : x.note = y.note) (h2 : x.levs = y.levs) (h3 : x.slack = y.slack) (h4 : x.weight = y.weight) : true = decide (x = y) := by
  symm; apply decide_eq_true; rw [ActD.ext_iff']; exact ⟨h1, h2, h3, h4⟩
theorem same_false {x y : ActD} (h : ¬ (x.note = y.note ∧ x.levs = y.levs ∧ x.slack = y.slack ∧ x.weight = y.weight)) : false = decide (x = y) := by
  symm; apply decide_eq_false; rw [ActD.ext_iff']; exact h

set_option maxHeartbeats 1000000 in
theorem implSameAct_any (v1 l1 v2 l2 : Value) (x y : ActD) (w : World) (h1 : Acc w v1 l1 x) (h2 : Acc w v2 l2 y) :
    Calls Try.prog 18 #[v1, v2] w fun e w' => e = .returned (.bool (decide (x = y))) ∧ Below w.heap.size w w' := by
  obtain ⟨rfl, hl1⟩ := h1
  obtain ⟨rfl, hl2⟩ := h2
  by_cases e1 : x.note = y.note
  · have b1 : (x.note == y.note) = true := by simpa using e1
    have E1 := Lib.hid e1; clear e1
    go_enter Try.func18, Try.ntmps18
    go_wp2_with fail
    refine (equalLevs_any l1 l2 x.levs y.levs _ (hl1.mono (by (repeat (first | with_reducible exact Below.refl _ _ | with_reducible exact hbw | (with_reducible refine Below.setCell ?_ ?_ _; rotate_left; · first | exact Nat.le_refl _ | omega | (simp; done) | (simp; omega)) | (with_reducible refine Below.alloc ?_ ?_ _; rotate_left; · first | exact Nat.le_refl _ | omega | (simp; done) | (simp; omega)) | with_reducible refine below_drewN ?_ _ | with_reducible refine Below.drew ?_)))) (hl2.mono (by (repeat (first | with_reducible exact Below.refl _ _ | with_reducible exact hbw | (with_reducible refine Below.setCell ?_ ?_ _; rotate_left; · first | exact Nat.le_refl _ | omega | (simp; done) | (simp; omega)) | (with_reducible refine Below.alloc ?_ ?_ _; rotate_left; · first | exact Nat.le_refl _ | omega | (simp; done) | (simp; omega)) | with_reducible refine below_drewN ?_ _ | with_reducible refine Below.drew ?_))))).mono ?_
    rintro e w1 ⟨rfl, hb⟩
    obtain ⟨hc, hf⟩ := bcell hb
    have hz : w.heap.size + 1 < w1.heap.size := by have := hb.size; simp at this; omega
    have hbw : Below w.heap.size w w1 := Below.trans (by (repeat (first | with_reducible exact Below.refl _ _ | with_reducible exact hbw | (with_reducible refine Below.setCell ?_ ?_ _; rotate_left; · first | exact Nat.le_refl _ | omega | (simp; done) | (simp; omega)) | (with_reducible refine Below.alloc ?_ ?_ _; rotate_left; · first | exact Nat.le_refl _ | omega | (simp; done) | (simp; omega)) | with_reducible refine below_drewN ?_ _ | with_reducible refine Below.drew ?_))) (hb.mono (by simp <;> omega))
    clear hb
    by_cases e2 : x.levs = y.levs
    · have b2 : decide (x.levs = y.levs) = true := by simpa using e2
      have E2 := Lib.hid e2; clear e2
      by_cases e3 : x.slack = y.slack
      · have b3 : (x.slack == y.slack) = true := by simpa using e3
        have E3 := Lib.hid e3; clear e3
        by_cases e4 : x.weight = y.weight
        · have b4 : (x.weight == y.weight) = true := by simpa using e4
          have E4 := Lib.hid e4; clear e4
          go_wp2
          go_ret
          exact ⟨ret_bool (same_true E1.out E2.out E3.out E4.out), hbw⟩
        · have b4 : (x.weight == y.weight) = false := by simpa using e4
          have E4 := Lib.hid e4; clear e4
          go_wp2
          go_ret
          exact ⟨ret_bool (same_false fun h => E4.out h.2.2.2), hbw⟩
      · have b3 : (x.slack == y.slack) = false := by simpa using e3
        have E3 := Lib.hid e3; clear e3
        go_wp2
        go_ret
        exact ⟨ret_bool (same_false fun h => E3.out h.2.2.1), hbw⟩
    · have b2 : decide (x.levs = y.levs) = false := by simpa using e2
      have E2 := Lib.hid e2; clear e2
      go_wp2
      go_ret
      exact ⟨ret_bool (same_false fun h => E2.out h.2.1), hbw⟩
  · have b1 : (x.note == y.note) = false := by simpa using e1
    have E1 := Lib.hid e1; clear e1
    go_enter Try.func18, Try.ntmps18
    go_wp2
    go_ret
    refine ⟨ret_bool (same_false fun h => E1.out h.1), ?_⟩
    (repeat (first | with_reducible exact Below.refl _ _ | with_reducible exact hbw | (with_reducible refine Below.setCell ?_ ?_ _; rotate_left; · first | exact Nat.le_refl _ | omega | (simp; done) | (simp; omega)) | (with_reducible refine Below.alloc ?_ ?_ _; rotate_left; · first | exact Nat.le_refl _ | omega | (simp; done) | (simp; omega)) | with_reducible refine below_drewN ?_ _ | with_reducible refine Below.drew ?_))

/-- An action lies in block b, its levers at lv. -/
structure ActAt (w : World) (b : Nat) (lv : Value) (x : ActD) : Prop where
  c0 : w.cell? ⟨b, 0, none⟩ = some (.int .i64 x.note)
  c1 : w.cell? ⟨b, 1, none⟩ = some lv
  c2 : w.cell? ⟨b, 2, none⟩ = some (.int .i64 x.slack)
  c3 : w.cell? ⟨b, 3, none⟩ = some (.int .i64 x.weight)
  levs : Levs w lv x.levs

set_option maxHeartbeats 1000000 in
theorem l24Same_any (b1 b2 : Nat) (l1 l2 : Value) (x y : ActD) (w : World) (h1 : ActAt w b1 l1 x) (h2 : ActAt w b2 l2 y) :
    Calls Try.prog 53 #[.pointer (some ⟨b1, 0, none⟩), .pointer (some ⟨b2, 0, none⟩)] w fun e w' => e = .returned (.bool (decide (x = y))) ∧ Below w.heap.size w w' := by
  obtain ⟨c0, c1, c2, c3, hl1⟩ := h1
  obtain ⟨d0, d1, d2, d3, hl2⟩ := h2
  obtain ⟨a, ca, rfl, hca, hcm, _⟩ := id hl1
  obtain ⟨b, cb, rfl, _, _, _⟩ := id hl2
  have hm : x.levs.length ≤ maxLen := by omega
  clear hca hcm
  unfold maxLen at hm
  by_cases e1 : x.note = y.note
  · have b_e1 : (x.note != y.note) = false := by simpa using e1
    have E1 := Lib.hid e1; clear e1
    by_cases e3 : x.slack = y.slack
    · have b_e3 : (x.slack != y.slack) = false := by simpa using e3
      have E3 := Lib.hid e3; clear e3
      by_cases e4 : x.weight = y.weight
      · have b_e4 : (x.weight != y.weight) = false := by simpa using e4
        have E4 := Lib.hid e4; clear e4
        by_cases hl : x.levs.length = y.levs.length
        · have b5 : ((x.levs.length : Int) != (y.levs.length : Int)) = false := by rw [hl]; simp
          have HL := Lib.hid hl; clear hl
          go_enter Try.func53, Try.ntmps53
          go_wp2
          go_quiet (fail)
          go_wp2
          go_loopw [5] (fun i wr => ∃ k : Nat, k ≤ x.levs.length ∧ i = .int .i64 k ∧ x.levs.take k = y.levs.take k ∧ Q w wr) (fun i _ => x.levs.length - (intOf i).toNat)
          case atStart => exact ⟨0, Nat.zero_le _, rfl, by simp, ⟨_, rfl⟩⟩
          case round =>
            obtain ⟨k, hk, rfl, ht, hq⟩ := hrel
            have HT := Lib.hid ht; clear ht
            have hc1 : wr.cell? ⟨b1, 1, none⟩ = some (.slice a x.levs.length ca) := (hq.cell _).trans c1
            have hd1 : wr.cell? ⟨b2, 1, none⟩ = some (.slice b y.levs.length cb) := (hq.cell _).trans d1
            by_cases hlt : k < x.levs.length
            · have hk2 : k < y.levs.length := by rw [← HL.out]; exact hlt
              obtain ⟨b3, o3, rfl, hB3, u0, u1⟩ := (hl1.q hq).at hlt
              obtain ⟨b4, o4, rfl, hB4, v0, v1⟩ := (hl2.q hq).at hk2
              by_cases g0 : x.levs[k].inn = y.levs[k].inn
              · have f0 : (x.levs[k].inn == y.levs[k].inn) = true := by simpa using g0
                by_cases g1 : x.levs[k].out = y.levs[k].out
                · have f1 : (x.levs[k].out == y.levs[k].out) = true := by simpa using g1
                  have GE := Lib.hid ((Lev.ext_iff' _ _).2 ⟨g0, g1⟩); clear g0 g1
                  go_wp2
                  go_quiet (fail)
                  go_wp2
                  go_roundw
                  case rel => exact ⟨k + 1, by omega, by go_num, take_step hlt hk2 HT.out (by simpa using GE.out), hq.drewN _⟩
                  case measure => simp [intOf]; omega
                · have f1 : (x.levs[k].out == y.levs[k].out) = false := by simpa using g1
                  have GE := Lib.hid (show ¬ x.levs = y.levs from ne_of_get hlt hk2 (by simpa using fun e : x.levs[k] = y.levs[k] => g1 (by rw [e]))); clear g0 g1
                  go_wp2
                  go_quiet (fail)
                  go_wp2
                  go_ret
                  exact ⟨ret_bool (same_false fun h => GE.out h.2.1), (hq.drewN _).below _⟩
              · have f0 : (x.levs[k].inn == y.levs[k].inn) = false := by simpa using g0
                have GE := Lib.hid (show ¬ x.levs = y.levs from ne_of_get hlt hk2 (by simpa using fun e : x.levs[k] = y.levs[k] => g0 (by rw [e]))); clear g0
                go_wp2
                go_quiet (fail)
                go_wp2
                go_ret
                exact ⟨ret_bool (same_false fun h => GE.out h.2.1), (hq.drewN _).below _⟩
            · go_wp2
              go_ret
              exact ⟨ret_bool (same_true E1.out (eq_of_take HL.out hlt HT.out) E3.out E4.out), hq.below _⟩
        · have b5 : ((x.levs.length : Int) != (y.levs.length : Int)) = true := by simp; omega
          have EX := Lib.hid hl; clear hl
          go_enter Try.func53, Try.ntmps53
          go_wp2
          go_quiet (fail)
          go_wp2
          go_ret
          exact ⟨ret_bool (same_false fun h => EX.out (by rw [h.2.1])), below_drewN (Below.refl _ _) _⟩
      · have b_e4 : (x.weight != y.weight) = true := by simpa using e4
        have EX := Lib.hid e4; clear e4
        go_enter Try.func53, Try.ntmps53
        go_wp2
        go_quiet (fail)
        go_wp2
        go_ret
        exact ⟨ret_bool (same_false fun h => EX.out h.2.2.2), below_drewN (Below.refl _ _) _⟩
    · have b_e3 : (x.slack != y.slack) = true := by simpa using e3
      have EX := Lib.hid e3; clear e3
      go_enter Try.func53, Try.ntmps53
      go_wp2
      go_quiet (fail)
      go_wp2
      go_ret
      exact ⟨ret_bool (same_false fun h => EX.out h.2.2.1), below_drewN (Below.refl _ _) _⟩
  · have b_e1 : (x.note != y.note) = true := by simpa using e1
    have EX := Lib.hid e1; clear e1
    go_enter Try.func53, Try.ntmps53
    go_wp2
    go_quiet (fail)
    go_wp2
    go_ret
    exact ⟨ret_bool (same_false fun h => EX.out h.1), below_drewN (Below.refl _ _) _⟩

set_option maxHeartbeats 400000 in
theorem specSameAct_any (v1 l1 v2 l2 : Value) (x y : ActD) (w : World) (h1 : Acc w v1 l1 x) (h2 : Acc w v2 l2 y) :
    Calls Try.prog 16 #[v1, v2] w fun e w' => e = .returned (.bool (decide (x = y))) ∧ Below w.heap.size w w' := by
  obtain ⟨rfl, hl1⟩ := h1
  obtain ⟨rfl, hl2⟩ := h2
  go_enter Try.func16, Try.ntmps16
  go_wp2_with fail
  refine (l24Same_any _ _ l1 l2 x y _ ⟨by simp [go_sem], by simp [go_sem], by simp [go_sem], by simp [go_sem], hl1.mono (by (repeat (first | with_reducible exact Below.refl _ _ | with_reducible exact hbw | (with_reducible refine Below.setCell ?_ ?_ _; rotate_left; · first | exact Nat.le_refl _ | omega | (simp; done) | (simp; omega)) | (with_reducible refine Below.alloc ?_ ?_ _; rotate_left; · first | exact Nat.le_refl _ | omega | (simp; done) | (simp; omega)) | with_reducible refine below_drewN ?_ _ | with_reducible refine Below.drew ?_)))⟩ ⟨by simp [go_sem], by simp [go_sem], by simp [go_sem], by simp [go_sem], hl2.mono (by (repeat (first | with_reducible exact Below.refl _ _ | with_reducible exact hbw | (with_reducible refine Below.setCell ?_ ?_ _; rotate_left; · first | exact Nat.le_refl _ | omega | (simp; done) | (simp; omega)) | (with_reducible refine Below.alloc ?_ ?_ _; rotate_left; · first | exact Nat.le_refl _ | omega | (simp; done) | (simp; omega)) | with_reducible refine below_drewN ?_ _ | with_reducible refine Below.drew ?_)))⟩).mono ?_
  rintro e w1 ⟨rfl, hb⟩
  have hbw : Below w.heap.size w w1 := Below.trans (by (repeat (first | with_reducible exact Below.refl _ _ | with_reducible exact hbw | (with_reducible refine Below.setCell ?_ ?_ _; rotate_left; · first | exact Nat.le_refl _ | omega | (simp; done) | (simp; omega)) | (with_reducible refine Below.alloc ?_ ?_ _; rotate_left; · first | exact Nat.le_refl _ | omega | (simp; done) | (simp; omega)) | with_reducible refine below_drewN ?_ _ | with_reducible refine Below.drew ?_))) (hb.mono (by simp <;> omega))
  clear hb
  go_wp2
  go_ret
  exact ⟨rfl, hbw⟩

end Go.Proofs.Ytjmapbgbmgaljaa
