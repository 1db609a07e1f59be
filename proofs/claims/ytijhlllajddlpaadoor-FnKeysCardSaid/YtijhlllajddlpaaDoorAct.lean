/- Contracts of the laws' helpers over one action: copy, equality, size, marks; SameAction of both packages. -/
import Derived.Test.YtijhlllajddlpaaDoorLevM
set_option linter.unusedSimpArgs false
set_option linter.unnecessarySimpa false
set_option linter.unusedVariables false
namespace Go.Proofs.YtijhlllajddlpaaDoor
open Go.RowKit

structure ActD where
  note : Int
  levs : List Lev
  slack : Int
  weight : Int
  deriving DecidableEq

theorem ActD.ext_iff' (x y : ActD) : x = y ↔ x.note = y.note ∧ x.levs = y.levs ∧ x.slack = y.slack ∧ x.weight = y.weight := by cases x; cases y; simp [ActD.mk.injEq]

/-- All numbers of an action are int64. -/
def ActD.ok (x : ActD) : Prop := I64 x.note ∧ I64 x.slack ∧ I64 x.weight ∧ ∀ l ∈ x.levs, I64 l.inn ∧ I64 l.out

/-- v is an action that reads as x, its levers lying at lv. -/
def Acc (w : World) (v : Value) (lv : Value) (x : ActD) : Prop := v = .agg #[.int .i64 x.note, lv, .int .i64 x.slack, .int .i64 x.weight] ∧ Levs w lv x.levs

theorem Acc.mono {w w' : World} {v lv : Value} {x : ActD} (h : Acc w v lv x) (hb : Below w.heap.size w w') : Acc w' v lv x := ⟨h.1, h.2.mono hb⟩

set_option maxHeartbeats 400000 in
theorem szAct_any (v lv : Value) (x : ActD) (left : Int) (w : World) (h : Acc w v lv x) (h0 : 0 ≤ left) (hl : left ≤ 1048576) :
    Calls Tryd.prog 6 #[v, .int .i64 left] w fun e w' => e = .returned (.int .i64 (if left < x.levs.length then -1 else left - x.levs.length)) ∧ Below w.heap.size w w' := by
  obtain ⟨rfl, hlv⟩ := h
  obtain ⟨a, cap, rfl, hn, hc, _⟩ := id hlv
  generalize hr : (if left < (x.levs.length : Int) then (-1 : Int) else left - x.levs.length) = r
  have HR := Lib.hid hr; clear hr
  by_cases hneg : r < 0
  · have hr1 : r = -1 := by have := HR.out; split at this <;> omega
    subst hr1
    go_enter Tryd.func6, Tryd.ntmps6
    go_wp2_with fail
    refine (szLevs_any _ x.levs x.levs.length left _ ⟨a, cap, rfl⟩ h0 hl (by omega)).mono ?_
    rw [HR.out]
    rintro e w1 ⟨rfl, rfl⟩
    go_wp2
    go_ret
    refine ⟨rfl, ?_⟩
    (repeat (first | with_reducible exact Below.refl _ _ | with_reducible exact hbw | (with_reducible refine Below.setCell ?_ ?_ _; rotate_left; · first | exact Nat.le_refl _ | omega | (simp; done) | (simp; omega)) | (with_reducible refine Below.alloc ?_ ?_ _; rotate_left; · first | exact Nat.le_refl _ | omega | (simp; done) | (simp; omega)) | with_reducible refine below_drewN ?_ _ | with_reducible refine Below.drew ?_))
  · go_enter Tryd.func6, Tryd.ntmps6
    go_wp2_with fail
    refine (szLevs_any _ x.levs x.levs.length left _ ⟨a, cap, rfl⟩ h0 hl (by omega)).mono ?_
    rw [HR.out]
    rintro e w1 ⟨rfl, rfl⟩
    go_wp2
    go_ret
    refine ⟨rfl, ?_⟩
    (repeat (first | with_reducible exact Below.refl _ _ | with_reducible exact hbw | (with_reducible refine Below.setCell ?_ ?_ _; rotate_left; · first | exact Nat.le_refl _ | omega | (simp; done) | (simp; omega)) | (with_reducible refine Below.alloc ?_ ?_ _; rotate_left; · first | exact Nat.le_refl _ | omega | (simp; done) | (simp; omega)) | with_reducible refine below_drewN ?_ _ | with_reducible refine Below.drew ?_))

set_option maxHeartbeats 400000 in
theorem toAct_any (v lv : Value) (x : ActD) (w : World) (h : Acc w v lv x) (hs : x.levs.length ≤ 1048576) :
    Calls Tryd.prog 8 #[v] w fun e w' => ∃ lv', e = .returned (.agg #[.int .i64 x.note, lv', .int .i64 x.slack, .int .i64 x.weight]) ∧ w'.ownsRow w.heap.size 54 2 lv' x.levs.length (x.levs.flatMap Lev.cells) ∧ Below w.heap.size w w' := by
  obtain ⟨rfl, hlv⟩ := h
  go_enter Tryd.func8, Tryd.ntmps8
  go_wp2_with fail
  refine (toLevs_any lv x.levs _ (hlv.mono (by (repeat (first | with_reducible exact Below.refl _ _ | with_reducible exact hbw | (with_reducible refine Below.setCell ?_ ?_ _; rotate_left; · first | exact Nat.le_refl _ | omega | (simp; done) | (simp; omega)) | (with_reducible refine Below.alloc ?_ ?_ _; rotate_left; · first | exact Nat.le_refl _ | omega | (simp; done) | (simp; omega)) | with_reducible refine below_drewN ?_ _ | with_reducible refine Below.drew ?_)))) hs).mono ?_
  rintro e w1 ⟨lv', rfl, ho, hb⟩
  obtain ⟨a', cap', rfl⟩ := owns_slice ho
  obtain ⟨hc, hf⟩ := bcell hb
  have hz : w.heap.size + 1 + 1 < w1.heap.size := by have := hb.size; simp at this; omega
  go_wp2
  refine bodyPost_ret (v := .agg #[.int .i64 x.note, .slice a' x.levs.length cap', .int .i64 x.slack, .int .i64 x.weight]) (by simp [results, Tryd.results8, go_sem, hc, hz]) rfl ⟨_, rfl, ?_, ?_⟩
  · refine owns_base (base := w.heap.size + 1 + 1 + 1) ?_ (by omega)
    repeat (refine ownsRow_setCell_below ?_ (by first | (simp; done) | (simp; omega)) _)
    simpa using ho
  · have hbw : Below w.heap.size w w1 := Below.trans (by (repeat (first | with_reducible exact Below.refl _ _ | with_reducible exact hbw | (with_reducible refine Below.setCell ?_ ?_ _; rotate_left; · first | exact Nat.le_refl _ | omega | (simp; done) | (simp; omega)) | (with_reducible refine Below.alloc ?_ ?_ _; rotate_left; · first | exact Nat.le_refl _ | omega | (simp; done) | (simp; omega)) | with_reducible refine below_drewN ?_ _ | with_reducible refine Below.drew ?_))) (hb.mono (by simp <;> omega))
    (repeat (first | with_reducible exact Below.refl _ _ | with_reducible exact hbw | (with_reducible refine Below.setCell ?_ ?_ _; rotate_left; · first | exact Nat.le_refl _ | omega | (simp; done) | (simp; omega)) | (with_reducible refine Below.alloc ?_ ?_ _; rotate_left; · first | exact Nat.le_refl _ | omega | (simp; done) | (simp; omega)) | with_reducible refine below_drewN ?_ _ | with_reducible refine Below.drew ?_))

set_option maxHeartbeats 1000000 in
theorem eqAct_any (v1 l1 v2 l2 : Value) (x y : ActD) (w : World) (h1 : Acc w v1 l1 x) (h2 : Acc w v2 l2 y) :
    Calls Tryd.prog 10 #[v1, v2] w fun e w' => e = .returned (.bool (decide (x = y))) ∧ Below w.heap.size w w' := by
  obtain ⟨rfl, hl1⟩ := h1
  obtain ⟨rfl, hl2⟩ := h2
  by_cases e1 : x.note = y.note
  · have b1 : (x.note != y.note) = false := by simpa using e1
    have E1 := Lib.hid e1; clear e1
    go_enter Tryd.func10, Tryd.ntmps10
    go_wp2_with fail
    refine (eqLevs_any l1 l2 x.levs y.levs _ (hl1.mono (by (repeat (first | with_reducible exact Below.refl _ _ | with_reducible exact hbw | (with_reducible refine Below.setCell ?_ ?_ _; rotate_left; · first | exact Nat.le_refl _ | omega | (simp; done) | (simp; omega)) | (with_reducible refine Below.alloc ?_ ?_ _; rotate_left; · first | exact Nat.le_refl _ | omega | (simp; done) | (simp; omega)) | with_reducible refine below_drewN ?_ _ | with_reducible refine Below.drew ?_)))) (hl2.mono (by (repeat (first | with_reducible exact Below.refl _ _ | with_reducible exact hbw | (with_reducible refine Below.setCell ?_ ?_ _; rotate_left; · first | exact Nat.le_refl _ | omega | (simp; done) | (simp; omega)) | (with_reducible refine Below.alloc ?_ ?_ _; rotate_left; · first | exact Nat.le_refl _ | omega | (simp; done) | (simp; omega)) | with_reducible refine below_drewN ?_ _ | with_reducible refine Below.drew ?_))))).mono ?_
    rintro e w1 ⟨rfl, hb⟩
    obtain ⟨hc, hf⟩ := bcell hb
    have hz : w.heap.size + 1 < w1.heap.size := by have := hb.size; simp at this; omega
    have hbw : Below w.heap.size w w1 := Below.trans (by (repeat (first | with_reducible exact Below.refl _ _ | with_reducible exact hbw | (with_reducible refine Below.setCell ?_ ?_ _; rotate_left; · first | exact Nat.le_refl _ | omega | (simp; done) | (simp; omega)) | (with_reducible refine Below.alloc ?_ ?_ _; rotate_left; · first | exact Nat.le_refl _ | omega | (simp; done) | (simp; omega)) | with_reducible refine below_drewN ?_ _ | with_reducible refine Below.drew ?_))) (hb.mono (by simp <;> omega))
    clear hb
    by_cases e2 : x.levs = y.levs
    · have b2 : decide (x.levs = y.levs) = true := by simpa using e2
      have E2 := Lib.hid e2; clear e2
      by_cases e3 : x.slack = y.slack
      · have b3 : (x.slack != y.slack) = false := by simpa using e3
        have E3 := Lib.hid e3; clear e3
        by_cases e4 : x.weight = y.weight
        · have b4 : (x.weight != y.weight) = false := by simpa using e4
          have E4 := Lib.hid e4; clear e4
          go_wp2
          go_ret
          exact ⟨ret_bool (by symm; apply decide_eq_true; rw [ActD.ext_iff']; exact ⟨E1.out, E2.out, E3.out, E4.out⟩), hbw⟩
        · have b4 : (x.weight != y.weight) = true := by simpa using e4
          have E4 := Lib.hid e4; clear e4
          go_wp2
          go_ret
          exact ⟨ret_bool (by symm; apply decide_eq_false; intro h; exact E4.out (by rw [h])), hbw⟩
      · have b3 : (x.slack != y.slack) = true := by simpa using e3
        have E3 := Lib.hid e3; clear e3
        go_wp2
        go_ret
        exact ⟨ret_bool (by symm; apply decide_eq_false; intro h; exact E3.out (by rw [h])), hbw⟩
    · have b2 : decide (x.levs = y.levs) = false := by simpa using e2
      have E2 := Lib.hid e2; clear e2
      go_wp2
      go_ret
      exact ⟨ret_bool (by symm; apply decide_eq_false; intro h; exact E2.out (by rw [h])), hbw⟩
  · have b1 : (x.note != y.note) = true := by simpa using e1
    have E1 := Lib.hid e1; clear e1
    go_enter Tryd.func10, Tryd.ntmps10
    go_wp2
    go_ret
    refine ⟨ret_bool (by symm; apply decide_eq_false; intro h; exact E1.out (by rw [h])), ?_⟩
    (repeat (first | with_reducible exact Below.refl _ _ | with_reducible exact hbw | (with_reducible refine Below.setCell ?_ ?_ _; rotate_left; · first | exact Nat.le_refl _ | omega | (simp; done) | (simp; omega)) | (with_reducible refine Below.alloc ?_ ?_ _; rotate_left; · first | exact Nat.le_refl _ | omega | (simp; done) | (simp; omega)) | with_reducible refine below_drewN ?_ _ | with_reducible refine Below.drew ?_))

set_option maxHeartbeats 400000 in
theorem markAct_any (lv : Value) (x : ActD) (n base k : Nat) (te : TypeId) (cs : List Value) (w : World) (ho : w.ownsRow base te 2 lv n cs) (hk : k + 2 * n ≤ 1000000000) :
    Calls Tryd.prog 13 #[.agg #[.int .i64 x.note, lv, .int .i64 x.slack, .int .i64 x.weight], .int .i64 k] w fun e w' => e = .returned (.int .i64 ↑(k + n * 2)) ∧ w'.ownsRow base te 2 lv n (marks k (n * 2)) ∧ w.grownBy w' lv.ownBlock := by
  obtain ⟨a, cap, rfl⟩ := owns_slice ho
  go_enter Tryd.func13, Tryd.ntmps13
  go_wp2_with fail
  refine (markLevs_any _ n base te cs k _ (ho.alloc _) hk).mono ?_
  rintro e w1 ⟨rfl, ho1, hg⟩
  go_wp2
  go_ret
  exact ⟨rfl, ho1, grown_trans (World.grownBy_alloc _ _ _) hg⟩

set_option maxHeartbeats 400000 in
theorem heldAct_any (lv : Value) (x : ActD) (n k : Nat) (w : World) (h : Sl w lv n (marks k (n * 2))) (hk : k + 2 * n ≤ 1000000000) :
    Calls Tryd.prog 14 #[.agg #[.int .i64 x.note, lv, .int .i64 x.slack, .int .i64 x.weight], .int .i64 k] w fun e w' => e = .returned (.int .i64 ↑(k + n * 2)) ∧ Below w.heap.size w w' := by
  obtain ⟨a, cap, rfl, _, _, _⟩ := id h
  have hz : ¬ ((k : Int) + (n : Int) * 2 < 0) := by omega
  go_enter Tryd.func14, Tryd.ntmps14
  go_wp2_with fail
  refine (heldLevs_any _ n k _ (h.mono (by (repeat (first | with_reducible exact Below.refl _ _ | with_reducible exact hbw | (with_reducible refine Below.setCell ?_ ?_ _; rotate_left; · first | exact Nat.le_refl _ | omega | (simp; done) | (simp; omega)) | (with_reducible refine Below.alloc ?_ ?_ _; rotate_left; · first | exact Nat.le_refl _ | omega | (simp; done) | (simp; omega)) | with_reducible refine below_drewN ?_ _ | with_reducible refine Below.drew ?_)))) hk).mono ?_
  rintro e w1 ⟨rfl, rfl⟩
  go_wp2
  go_ret
  refine ⟨rfl, ?_⟩
  (repeat (first | with_reducible exact Below.refl _ _ | with_reducible exact hbw | (with_reducible refine Below.setCell ?_ ?_ _; rotate_left; · first | exact Nat.le_refl _ | omega | (simp; done) | (simp; omega)) | (with_reducible refine Below.alloc ?_ ?_ _; rotate_left; · first | exact Nat.le_refl _ | omega | (simp; done) | (simp; omega)) | with_reducible refine below_drewN ?_ _ | with_reducible refine Below.drew ?_))

end Go.Proofs.YtijhlllajddlpaaDoor
