/- Contracts of SlackAfter of both packages. -/
import Derived.Test.YtjmapbgbmgaljaaOwnAct
import Derived.Test.YtjmapbgbmgaljaaMotion
set_option linter.unusedSimpArgs false
set_option linter.unnecessarySimpa false
set_option linter.unusedVariables false
set_option maxRecDepth 100000
namespace Go.Proofs.Ytjmapbgbmgaljaa
open Go.RowKit

def slackTo (x : ActD) (l d : Int) : Int := max 0 (min 10000 (x.slack + near (17 * l * d) 1000000))
def wireOk (l d : Int) : Prop := (0 ≤ l ∧ l ≤ 3000000) ∧ (-60 ≤ d ∧ d ≤ 60)
instance (l d : Int) : Decidable (wireOk l d) := by unfold wireOk; infer_instance
def zeroAct : ActD := ⟨0, [], 0, 0⟩
def slackV (x : ActD) (l d : Int) : ActD := if validActB x then (if wireOk l d then { x with slack := slackTo x l d } else zeroAct) else zeroAct
def slackC (x : ActD) (l d : Int) : Int := if validActB x then (if wireOk l d then 0 else 2) else 1
theorem slack_yes {x : ActD} {l d : Int} (hx : validActB x = true) (h : wireOk l d) : slackV x l d = { x with slack := slackTo x l d } ∧ slackC x l d = 0 := by
  unfold slackV slackC; rw [hx, if_pos rfl, if_pos rfl, if_pos h, if_pos h]; exact ⟨rfl, rfl⟩
theorem slack_rng {x : ActD} {l d : Int} (hx : validActB x = true) (h : ¬ wireOk l d) : slackV x l d = zeroAct ∧ slackC x l d = 2 := by
  unfold slackV slackC; rw [hx, if_pos rfl, if_pos rfl, if_neg h, if_neg h]; exact ⟨rfl, rfl⟩
theorem slack_inv {x : ActD} {l d : Int} (hx : validActB x = false) : slackV x l d = zeroAct ∧ slackC x l d = 1 := by
  unfold slackV slackC; rw [hx]; exact ⟨rfl, rfl⟩
theorem slack_len (x : ActD) (l d : Int) (h : x.levs.length ≤ 1048576) : (slackV x l d).levs.length ≤ 1048576 := by
  unfold slackV; split
  · split
    · exact h
    · simp [zeroAct]
  · simp [zeroAct]
theorem mul3_bd {l d : Int} (h : wireOk l d) : -3060000000 ≤ 17 * l * d ∧ 17 * l * d ≤ 3060000000 := by
  obtain ⟨⟨h1, h2⟩, h3, h4⟩ := h
  have a1 : 17 * l * d ≤ 17 * l * 60 := Int.mul_le_mul_of_nonneg_left h4 (by omega)
  have a2 : 17 * l * (-60) ≤ 17 * l * d := Int.mul_le_mul_of_nonneg_left h3 (by omega)
  omega
theorem near_bd {a b : Int} (h : -3060000000 ≤ a ∧ a ≤ 3060000000) (hb : b = 1000000) : -4000 ≤ near a b ∧ near a b ≤ 4000 := by
  subst hb; unfold near; split <;> omega
theorem grown_row {w w' : World} (h : Below w.heap.size w w') (row : Option Nat) : w.grownBy w' row := ⟨h.os, h.tape, h.output, h.size, fun k hk _ => h.block k hk⟩

theorem grown_lit (w : World) (o o' : Obj) : (w.alloc o).grownBy (w.alloc o').drew (some w.heap.size) := by
  refine ⟨rfl, rfl, rfl, by simp, fun k hk hne => ?_⟩
  have h1 : k ≠ w.heap.size := fun e => hne (by rw [e])
  have h2 : k < w.heap.size := by simp at hk; omega
  have e1 := (belowA w o).block k h2
  have e2 := (belowA w o').block k h2
  rw [e1]; exact e2
theorem OwnAct.row {B E : Nat} {w : World} {x : ActD} {a lv b c : Value} (h : OwnAct B E w (.agg #[a, lv, b, c]) x) : OwnRow B E w 70 2 lv x.levs.length (x.levs.flatMap Lev.cells) := by
  obtain ⟨l, e, h⟩ := h
  simp only [Value.agg.injEq, Array.mk.injEq, List.cons.injEq, and_true] at e
  obtain ⟨_, rfl, _⟩ := e
  exact h
theorem grown_litN (w : World) (o o' : Obj) (n : Nat) : (w.alloc o).grownBy ((w.alloc o').drewN n) (some w.heap.size) := by
  have h := grown_lit w o o'
  exact ⟨rfl, rfl, rfl, h.size, h.block⟩
theorem grown_set {a w : World} {g : Nat} (h : a.grownBy w (some g)) (o : Nat) (u : Value) : a.grownBy (w.setCell ⟨g, o, none⟩ u) (some g) :=
  ⟨h.os, h.tape, h.output, by have := h.size; simpa [World.setCell] using this, fun k hk hne => (Below.heap_setCell _ _ _ _ (by intro e; apply hne; simp only at e; rw [e])).trans (h.block k hk hne)⟩
/-- A result that is an action and a code. -/
theorem own_zero (B E : Nat) (w : World) : OwnAct B E w (.agg #[.int .i64 0, .slice none 0 0, .int .i64 0, .int .i64 0]) zeroAct := ⟨_, rfl, owns_nil _ _ _ _, fun k hk => by simp [Value.ownBlock] at hk⟩

set_option maxHeartbeats 2000000 in
theorem specSlackAfter_any (v : Value) (x : ActD) (l d : Int) (w : World) (h : RdAct w v x) (_ : x.ok) (hs : x.levs.length ≤ 1048576) (_ : I64 l) (_ : I64 d) :
    Calls Try.prog 37 #[v, .int .i64 l, .int .i64 d] w fun e w' => ∃ v', e = .returned (.tuple #[v', .int .i64 (slackC x l d)]) ∧ OwnAct w.heap.size w'.heap.size w' v' (slackV x l d) ∧ Below w.heap.size w w' := by
  obtain ⟨lv, rfl, hlv⟩ := h
  by_cases gx : ActOk x
  · have g' := validActB_iff.2 gx
    have G := Lib.hid gx
    have GV := Lib.hid g'
    obtain ⟨s0, s1⟩ := gx.slack
    clear gx
    by_cases gw : wireOk l d
    · obtain ⟨e1, e2⟩ := slack_yes g' gw
      rw [e1, e2]
      clear e1 e2
      obtain ⟨q, hq⟩ : ∃ q, q = near (17 * l * d) 1000000 := ⟨_, rfl⟩
      have hqb := near_bd (mul3_bd gw) rfl
      rw [← hq] at hqb
      obtain ⟨q0, q1⟩ := hqb
      have HQ := Lib.hid hq; clear hq
      obtain ⟨p, hp⟩ : ∃ p, p = min 10000 (x.slack + q) := ⟨_, rfl⟩
      have HP := Lib.hid hp; clear hp
      obtain ⟨r, hr⟩ : ∃ r, r = max 0 p := ⟨_, rfl⟩
      have HR := Lib.hid hr; clear hr
      have HS := Lib.hid (show slackTo x l d = r by unfold slackTo; rw [HR.out, HP.out, HQ.out])
      have m0 := mul3_bd gw
      obtain ⟨m1, m2⟩ := m0
      obtain ⟨⟨l0, l1⟩, d0, d1⟩ := id gw
      have GW := Lib.hid gw; clear gw
      have w1' : IntKind.i64.wrap (17 * l) = 17 * l := IntWalk.i64_in _ (by omega)
      have w2' : IntKind.i64.wrap (17 * l * d) = 17 * l * d := IntWalk.i64_in _ (by omega)
      have w3' : IntKind.i64.wrap (x.slack + q) = x.slack + q := IntWalk.i64_in _ (by omega)
      go_enter Try.func37, Try.ntmps37
      go_wp2_with fail
      refine (l24One_any _ 0 lv x _ ⟨by simp [go_sem], by simp [go_sem], by simp [go_sem], by simp [go_sem], hlv.mono (by (repeat (first | with_reducible exact Below.refl _ _ | with_reducible exact hbw | (with_reducible refine Below.setCell ?_ ?_ _; rotate_left; · first | exact Nat.le_refl _ | omega | (simp; done) | (simp; omega)) | (with_reducible refine Below.alloc ?_ ?_ _; rotate_left; · first | exact Nat.le_refl _ | omega | (simp; done) | (simp; omega)) | with_reducible refine below_drewN ?_ _ | with_reducible refine Below.drew ?_)))⟩).mono ?_
      rw [g']
      rintro e w1 ⟨rfl, rfl⟩
      go_wp2_with fail
      refine (l00In_any true _ _ _ _ (yesB GW.out.1)).mono ?_
      rintro e w1 ⟨rfl, rfl⟩
      go_wp2_with fail
      refine (l00In_any true _ _ _ _ (yesB GW.out.2)).mono ?_
      rintro e w1 ⟨rfl, rfl⟩
      go_wp2_with fail
      refine (l24Own_any _ 0 lv x _ ⟨by simp [go_sem], by simp [go_sem], by simp [go_sem], by simp [go_sem], hlv.mono (by (repeat (first | with_reducible exact Below.refl _ _ | with_reducible exact hbw | (with_reducible refine Below.setCell ?_ ?_ _; rotate_left; · first | exact Nat.le_refl _ | omega | (simp; done) | (simp; omega)) | (with_reducible refine Below.alloc ?_ ?_ _; rotate_left; · first | exact Nat.le_refl _ | omega | (simp; done) | (simp; omega)) | with_reducible refine below_drewN ?_ _ | with_reducible refine Below.drew ?_)))⟩ hs).mono ?_
      rintro e w1 ⟨v1, rfl, ho, hb⟩
      obtain ⟨a1, c1, rfl⟩ := ho.form
      have hbw : Below w.heap.size w w1 := Below.trans (by (repeat (first | with_reducible exact Below.refl _ _ | with_reducible exact hbw | (with_reducible refine Below.setCell ?_ ?_ _; rotate_left; · first | exact Nat.le_refl _ | omega | (simp; done) | (simp; omega)) | (with_reducible refine Below.alloc ?_ ?_ _; rotate_left; · first | exact Nat.le_refl _ | omega | (simp; done) | (simp; omega)) | with_reducible refine below_drewN ?_ _ | with_reducible refine Below.drew ?_))) (hb.mono (by simp <;> omega))
      have hz := hb.size
      simp only [World.size_alloc] at hz
      have hor : OwnRow (w.heap.size + 2) w1.heap.size w1 70 2 (.slice a1 x.levs.length c1) x.levs.length (x.levs.flatMap Lev.cells) := ho.row.wide (by simp) (Nat.le_refl _)
      have hz0 : w.heap.size < w1.heap.size := by omega
      have hz1 : w.heap.size + 1 < w1.heap.size := by omega
      have hz2 : w.heap.size < w1.heap.size + 1 := by omega
      have hz3 : ¬ w.heap.size = w1.heap.size := by omega
      have y0 : w1.cell? ⟨w.heap.size, 0, none⟩ = some (.int .i64 x.note) := cellL hb (by simp <;> omega) (by simp [go_sem])
      have y2 : w1.cell? ⟨w.heap.size, 2, none⟩ = some (.int .i64 x.slack) := cellL hb (by simp <;> omega) (by simp [go_sem])
      have z0 : w1.cell? ⟨w.heap.size + 1, 0, none⟩ = some (.int .i64 0) := cellL hb (by simp <;> omega) (by simp [go_sem])
      have z1 : w1.cell? ⟨w.heap.size + 1, 1, none⟩ = some (.slice none 0 0) := cellL hb (by simp <;> omega) (by simp [go_sem])
      have z2 : w1.cell? ⟨w.heap.size + 1, 2, none⟩ = some (.int .i64 0) := cellL hb (by simp <;> omega) (by simp [go_sem])
      have z3 : w1.cell? ⟨w.heap.size + 1, 3, none⟩ = some (.int .i64 0) := cellL hb (by simp <;> omega) (by simp [go_sem])
      have f1 : ∀ o, w1.frozen? ⟨w.heap.size + 1, o, none⟩ = false := fun o => frozenL hb (by simp <;> omega) (by simp [go_sem])
      go_wp2_with fail
      refine wp_region_ord [(0, true), (1, true), (2, true), (3, true), (4, true), (5, true), (6, false), (7, true), (8, false), (9, false), (10, true), (11, false)] (some w1.heap.size) (by kernel_rfl) (by kernel_rfl) ?_
      (repeat (with_reducible refine wpOrd_soft (fun K hK => ?_); simp only [List.getElem?_toArray, List.getElem?_cons_zero, List.getElem?_cons_succ]; first | (go_simp; refine hK _ ?_) | (simp only [undef]; go_simp; refine hK _ ?_); clear hK K))
      (with_reducible refine wpOrd_hard ?_; simp only [List.getElem?_toArray, List.getElem?_cons_zero, List.getElem?_cons_succ])
      go_wp2_with fail
      refine (l01Div_any q _ _ _ HQ.out (by omega) (by omega) (by omega) (by omega)).mono ?_
      rintro e w2 ⟨rfl, rfl⟩
      go_wp2_with fail
      refine ⟨grown_row (Below.drew (Below.refl _ _)) _, ?_⟩
      (repeat (with_reducible refine wpOrd_soft (fun K hK => ?_); simp only [List.getElem?_toArray, List.getElem?_cons_zero, List.getElem?_cons_succ]; first | (go_simp; refine hK _ ?_) | (simp only [undef]; go_simp; refine hK _ ?_); clear hK K))
      (with_reducible refine wpOrd_hard ?_; simp only [List.getElem?_toArray, List.getElem?_cons_zero, List.getElem?_cons_succ])
      go_wp2_with fail
      refine (l00Min_any p _ _ _ HP.out).mono ?_
      rintro e w2 ⟨rfl, rfl⟩
      go_wp2_with fail
      refine ⟨grown_row (Below.drew (Below.refl _ _)) _, ?_⟩
      (with_reducible refine wpOrd_hard ?_; simp only [List.getElem?_toArray, List.getElem?_cons_zero, List.getElem?_cons_succ])
      go_wp2_with fail
      refine (l00Max_any r _ _ _ HR.out).mono ?_
      rintro e w2 ⟨rfl, rfl⟩
      go_wp2_with fail
      refine ⟨grown_row (Below.drew (Below.refl _ _)) _, ?_⟩
      (repeat (with_reducible refine wpOrd_soft (fun K hK => ?_); simp only [List.getElem?_toArray, List.getElem?_cons_zero, List.getElem?_cons_succ]; first | (go_simp; refine hK _ ?_) | (simp only [undef]; go_simp; refine hK _ ?_); clear hK K))
      (with_reducible refine wpOrd_hard ?_; simp only [List.getElem?_toArray, List.getElem?_cons_zero, List.getElem?_cons_succ])
      go_wp2_with fail
      refine ⟨grown_lit _ _ _, ?_⟩
      (with_reducible refine wpOrd_nil ?_); refine NoPanic.normal ?_
      clear w1' w2' w3'
      go_wp2
      refine bodyPost_ret (v := .tuple #[.agg #[.int .i64 x.note, .slice a1 x.levs.length c1, .int .i64 r, .int .i64 x.weight], .int .i64 0]) (by simp [results, Try.results37, go_sem, hz0, hz1, z0, z1, z2, z3]) rfl ⟨_, rfl, ⟨_, by rw [HS.out], ?_⟩, ?_⟩
      · exact (hor.touch (B' := 0) (E' := w.heap.size + 2) (by (repeat (first | with_reducible exact Touch.refl _ _ _ | with_reducible exact htc | (with_reducible refine Touch.setCell ?_ ?_ _; rotate_left; · (simp only; omega)) | (with_reducible refine Touch.setNew ?_ ?_ _; rotate_left; · (first | (simp only; omega) | (simp; done) | (simp; omega))) | with_reducible refine Touch.alloc ?_ _ | with_reducible refine Touch.drewN ?_ _ | with_reducible refine Touch.drew ?_))) (by omega)).wide (by omega) (by simp)
      · (repeat (first | with_reducible exact Below.refl _ _ | with_reducible exact hbw | (with_reducible refine Below.setCell ?_ ?_ _; rotate_left; · first | exact Nat.le_refl _ | omega | (simp; done) | (simp; omega)) | (with_reducible refine Below.alloc ?_ ?_ _; rotate_left; · first | exact Nat.le_refl _ | omega | (simp; done) | (simp; omega)) | with_reducible refine below_drewN ?_ _ | with_reducible refine Below.drew ?_))
    · obtain ⟨e1, e2⟩ := slack_rng g' gw
      rw [e1, e2]
      clear e1 e2
      by_cases gl : 0 ≤ l ∧ l ≤ 3000000
      · have GL := Lib.hid gl
        have GD := Lib.hid (show ¬ (-60 ≤ d ∧ d ≤ 60) from fun h => gw ⟨gl, h⟩)
        clear gl gw
        go_enter Try.func37, Try.ntmps37
        go_wp2_with fail
        refine (l24One_any _ 0 lv x _ ⟨by simp [go_sem], by simp [go_sem], by simp [go_sem], by simp [go_sem], hlv.mono (by (repeat (first | with_reducible exact Below.refl _ _ | with_reducible exact hbw | (with_reducible refine Below.setCell ?_ ?_ _; rotate_left; · first | exact Nat.le_refl _ | omega | (simp; done) | (simp; omega)) | (with_reducible refine Below.alloc ?_ ?_ _; rotate_left; · first | exact Nat.le_refl _ | omega | (simp; done) | (simp; omega)) | with_reducible refine below_drewN ?_ _ | with_reducible refine Below.drew ?_)))⟩).mono ?_
        rw [g']
        rintro e w1 ⟨rfl, rfl⟩
        go_wp2_with fail
        refine (l00In_any true _ _ _ _ (yesB GL.out)).mono ?_
        rintro e w1 ⟨rfl, rfl⟩
        go_wp2_with fail
        refine (l00In_any false _ _ _ _ (noB GD.out)).mono ?_
        rintro e w1 ⟨rfl, rfl⟩
        go_wp2
        refine bodyPost_ret (v := .tuple #[.agg #[.int .i64 0, .slice none 0 0, .int .i64 0, .int .i64 0], .int .i64 2]) (by simp [results, Try.results37, go_sem]) rfl ⟨_, rfl, own_zero _ _ _, ?_⟩
        (repeat (first | with_reducible exact Below.refl _ _ | with_reducible exact hbw | (with_reducible refine Below.setCell ?_ ?_ _; rotate_left; · first | exact Nat.le_refl _ | omega | (simp; done) | (simp; omega)) | (with_reducible refine Below.alloc ?_ ?_ _; rotate_left; · first | exact Nat.le_refl _ | omega | (simp; done) | (simp; omega)) | with_reducible refine below_drewN ?_ _ | with_reducible refine Below.drew ?_))
      · have GL := Lib.hid gl; clear gl gw
        go_enter Try.func37, Try.ntmps37
        go_wp2_with fail
        refine (l24One_any _ 0 lv x _ ⟨by simp [go_sem], by simp [go_sem], by simp [go_sem], by simp [go_sem], hlv.mono (by (repeat (first | with_reducible exact Below.refl _ _ | with_reducible exact hbw | (with_reducible refine Below.setCell ?_ ?_ _; rotate_left; · first | exact Nat.le_refl _ | omega | (simp; done) | (simp; omega)) | (with_reducible refine Below.alloc ?_ ?_ _; rotate_left; · first | exact Nat.le_refl _ | omega | (simp; done) | (simp; omega)) | with_reducible refine below_drewN ?_ _ | with_reducible refine Below.drew ?_)))⟩).mono ?_
        rw [g']
        rintro e w1 ⟨rfl, rfl⟩
        go_wp2_with fail
        refine (l00In_any false _ _ _ _ (noB GL.out)).mono ?_
        rintro e w1 ⟨rfl, rfl⟩
        go_wp2
        refine bodyPost_ret (v := .tuple #[.agg #[.int .i64 0, .slice none 0 0, .int .i64 0, .int .i64 0], .int .i64 2]) (by simp [results, Try.results37, go_sem]) rfl ⟨_, rfl, own_zero _ _ _, ?_⟩
        (repeat (first | with_reducible exact Below.refl _ _ | with_reducible exact hbw | (with_reducible refine Below.setCell ?_ ?_ _; rotate_left; · first | exact Nat.le_refl _ | omega | (simp; done) | (simp; omega)) | (with_reducible refine Below.alloc ?_ ?_ _; rotate_left; · first | exact Nat.le_refl _ | omega | (simp; done) | (simp; omega)) | with_reducible refine below_drewN ?_ _ | with_reducible refine Below.drew ?_))
  · have g' : validActB x = false := by rw [← Bool.not_eq_true, validActB_iff]; exact gx
    clear gx
    obtain ⟨e1, e2⟩ := slack_inv (l := l) (d := d) g'
    rw [e1, e2]
    clear e1 e2
    go_enter Try.func37, Try.ntmps37
    go_wp2_with fail
    refine (l24One_any _ 0 lv x _ ⟨by simp [go_sem], by simp [go_sem], by simp [go_sem], by simp [go_sem], hlv.mono (by (repeat (first | with_reducible exact Below.refl _ _ | with_reducible exact hbw | (with_reducible refine Below.setCell ?_ ?_ _; rotate_left; · first | exact Nat.le_refl _ | omega | (simp; done) | (simp; omega)) | (with_reducible refine Below.alloc ?_ ?_ _; rotate_left; · first | exact Nat.le_refl _ | omega | (simp; done) | (simp; omega)) | with_reducible refine below_drewN ?_ _ | with_reducible refine Below.drew ?_)))⟩).mono ?_
    rw [g']
    rintro e w1 ⟨rfl, rfl⟩
    go_wp2
    refine bodyPost_ret (v := .tuple #[.agg #[.int .i64 0, .slice none 0 0, .int .i64 0, .int .i64 0], .int .i64 1]) (by simp [results, Try.results37, go_sem]) rfl ⟨_, rfl, own_zero _ _ _, ?_⟩
    (repeat (first | with_reducible exact Below.refl _ _ | with_reducible exact hbw | (with_reducible refine Below.setCell ?_ ?_ _; rotate_left; · first | exact Nat.le_refl _ | omega | (simp; done) | (simp; omega)) | (with_reducible refine Below.alloc ?_ ?_ _; rotate_left; · first | exact Nat.le_refl _ | omega | (simp; done) | (simp; omega)) | with_reducible refine below_drewN ?_ _ | with_reducible refine Below.drew ?_))


set_option maxHeartbeats 2000000 in
theorem implSlackAfter_any (v : Value) (x : ActD) (l d : Int) (w : World) (h : RdAct w v x) (_ : x.ok) (hs : x.levs.length ≤ 1048576) (_ : I64 l) (_ : I64 d) :
    Calls Try.prog 38 #[v, .int .i64 l, .int .i64 d] w fun e w' => ∃ v', e = .returned (.tuple #[v', .int .i64 (slackC x l d)]) ∧ OwnAct w.heap.size w'.heap.size w' v' (slackV x l d) ∧ Below w.heap.size w w' := by
  obtain ⟨lv, rfl, hlv⟩ := h
  by_cases gx : ActOk x
  · have g' := validActB_iff.2 gx
    have G := Lib.hid gx
    have GV := Lib.hid g'
    obtain ⟨s0, s1⟩ := gx.slack
    clear gx
    by_cases gw : wireOk l d
    · obtain ⟨e1, e2⟩ := slack_yes g' gw
      rw [e1, e2]
      clear e1 e2
      obtain ⟨q, hq⟩ : ∃ q, q = near (17 * l * d) 1000000 := ⟨_, rfl⟩
      have hqb := near_bd (mul3_bd gw) rfl
      rw [← hq] at hqb
      obtain ⟨q0, q1⟩ := hqb
      have HQ := Lib.hid hq; clear hq
      have m0 := mul3_bd gw
      obtain ⟨m1, m2⟩ := m0
      obtain ⟨⟨l0, l1⟩, d0, d1⟩ := id gw
      have GW := Lib.hid gw; clear gw
      have w1' : IntKind.i64.wrap (17 * l) = 17 * l := IntWalk.i64_in _ (by omega)
      have w2' : IntKind.i64.wrap (17 * l * d) = 17 * l * d := IntWalk.i64_in _ (by omega)
      have w3' : IntKind.i64.wrap (x.slack + q) = x.slack + q := IntWalk.i64_in _ (by omega)
      have HS := Lib.hid (show slackTo x l d = max 0 (min 10000 (x.slack + q)) by unfold slackTo; rw [HQ.out])
      go_enter Try.func38, Try.ntmps38
      go_wp2_with fail
      refine (implValidAct_any _ lv x _ ⟨rfl, hlv.mono (by (repeat (first | with_reducible exact Below.refl _ _ | with_reducible exact hbw | (with_reducible refine Below.setCell ?_ ?_ _; rotate_left; · first | exact Nat.le_refl _ | omega | (simp; done) | (simp; omega)) | (with_reducible refine Below.alloc ?_ ?_ _; rotate_left; · first | exact Nat.le_refl _ | omega | (simp; done) | (simp; omega)) | with_reducible refine below_drewN ?_ _ | with_reducible refine Below.drew ?_)))⟩).mono ?_
      rw [g']
      rintro e w1 ⟨rfl, hb⟩
      have hbw : Below w.heap.size w w1 := Below.trans (by (repeat (first | with_reducible exact Below.refl _ _ | with_reducible exact hbw | (with_reducible refine Below.setCell ?_ ?_ _; rotate_left; · first | exact Nat.le_refl _ | omega | (simp; done) | (simp; omega)) | (with_reducible refine Below.alloc ?_ ?_ _; rotate_left; · first | exact Nat.le_refl _ | omega | (simp; done) | (simp; omega)) | with_reducible refine below_drewN ?_ _ | with_reducible refine Below.drew ?_))) (hb.mono (by simp <;> omega))
      have hz := hb.size
      simp only [World.size_alloc] at hz
      have hz0 : w.heap.size < w1.heap.size := by omega
      have hz1 : w.heap.size + 1 < w1.heap.size := by omega
      have y0 : w1.cell? ⟨w.heap.size, 0, none⟩ = some (.int .i64 x.note) := cellL hb (by simp <;> omega) (by simp [go_sem])
      have y1 : w1.cell? ⟨w.heap.size, 1, none⟩ = some lv := cellL hb (by simp <;> omega) (by simp [go_sem])
      have y2 : w1.cell? ⟨w.heap.size, 2, none⟩ = some (.int .i64 x.slack) := cellL hb (by simp <;> omega) (by simp [go_sem])
      have y3 : w1.cell? ⟨w.heap.size, 3, none⟩ = some (.int .i64 x.weight) := cellL hb (by simp <;> omega) (by simp [go_sem])
      have z0 : w1.cell? ⟨w.heap.size + 1, 0, none⟩ = some (.int .i64 0) := cellL hb (by simp <;> omega) (by simp [go_sem])
      have z1 : w1.cell? ⟨w.heap.size + 1, 1, none⟩ = some (.slice none 0 0) := cellL hb (by simp <;> omega) (by simp [go_sem])
      have z2 : w1.cell? ⟨w.heap.size + 1, 2, none⟩ = some (.int .i64 0) := cellL hb (by simp <;> omega) (by simp [go_sem])
      have z3 : w1.cell? ⟨w.heap.size + 1, 3, none⟩ = some (.int .i64 0) := cellL hb (by simp <;> omega) (by simp [go_sem])
      have f1 : ∀ o, w1.frozen? ⟨w.heap.size + 1, o, none⟩ = false := fun o => frozenL hb (by simp <;> omega) (by simp [go_sem])
      clear hb
      go_wp2_with fail
      refine (within_any true _ _ _ _ (yesB GW.out.1)).mono ?_
      rintro e w2 ⟨rfl, rfl⟩
      go_wp2_with fail
      refine (within_any true _ _ _ _ (yesB GW.out.2)).mono ?_
      rintro e w2 ⟨rfl, rfl⟩
      go_wp2_with fail
      refine (copyAct_any _ x _ ⟨lv, rfl, hlv.mono hbw⟩ hs).mono ?_
      rintro e w2 ⟨v2, rfl, ho, hb⟩
      obtain ⟨a1, c1, rfl⟩ := ho.form
      have hor : OwnRow (w.heap.size + 2) w2.heap.size w2 70 2 (.slice a1 x.levs.length c1) x.levs.length (x.levs.flatMap Lev.cells) := ho.row.wide (by omega) (Nat.le_refl _)
      have hbw := hbw.trans (hb.mono hbw.size)
      have hz := hb.size
      have y2 := cellB hb y2
      have z0 := cellB hb z0
      have z1 := cellB hb z1
      have z2 := cellB hb z2
      have z3 := cellB hb z3
      have f1 : ∀ o, w2.frozen? ⟨w.heap.size + 1, o, none⟩ = false := fun o => frozenL hb hz1 (f1 o)
      have hz0 : w.heap.size < w2.heap.size := by omega
      have hz1 : w.heap.size + 1 < w2.heap.size := by omega
      have hz2 : w.heap.size < w2.heap.size + 1 := by omega
      have hz3 : ¬ w.heap.size = w2.heap.size := by omega
      clear hb hz
      go_wp2_with fail
      refine wp_region_ord [(0, true), (1, true), (2, true), (3, true), (4, true), (5, true), (6, false), (7, true), (8, true), (9, true), (10, true), (11, false)] (some w2.heap.size) (by kernel_rfl) (by kernel_rfl) ?_
      (repeat (with_reducible refine wpOrd_soft (fun K hK => ?_); simp only [List.getElem?_toArray, List.getElem?_cons_zero, List.getElem?_cons_succ]; first | (go_simp; refine hK _ ?_) | (simp only [undef]; go_simp; refine hK _ ?_); clear hK K))
      (with_reducible refine wpOrd_hard ?_; simp only [List.getElem?_toArray, List.getElem?_cons_zero, List.getElem?_cons_succ])
      go_wp2_with fail
      refine (nearest_any q _ _ _ HQ.out (by omega) (by omega) (by omega) (by omega)).mono ?_
      rintro e w3 ⟨rfl, nq, rfl⟩
      go_wp2_with fail
      refine ⟨grown_row (by (repeat (first | with_reducible exact Below.refl _ _ | with_reducible exact hbw | (with_reducible refine Below.setCell ?_ ?_ _; rotate_left; · first | exact Nat.le_refl _ | omega | (simp; done) | (simp; omega)) | (with_reducible refine Below.alloc ?_ ?_ _; rotate_left; · first | exact Nat.le_refl _ | omega | (simp; done) | (simp; omega)) | with_reducible refine below_drewN ?_ _ | with_reducible refine Below.drew ?_))) _, ?_⟩
      by_cases e1 : x.slack + q < 0
      · (repeat (with_reducible refine wpOrd_soft (fun K hK => ?_); simp only [List.getElem?_toArray, List.getElem?_cons_zero, List.getElem?_cons_succ]; first | (go_simp; refine hK _ ?_) | (simp only [undef]; go_simp; refine hK _ ?_); clear hK K))
        (with_reducible refine wpOrd_hard ?_; simp only [List.getElem?_toArray, List.getElem?_cons_zero, List.getElem?_cons_succ])
        go_wp2_with fail
        refine ⟨grown_set (grown_row (by (repeat (first | with_reducible exact Below.refl _ _ | with_reducible exact hbw | (with_reducible refine Below.setCell ?_ ?_ _; rotate_left; · first | exact Nat.le_refl _ | omega | (simp; done) | (simp; omega)) | (with_reducible refine Below.alloc ?_ ?_ _; rotate_left; · first | exact Nat.le_refl _ | omega | (simp; done) | (simp; omega)) | with_reducible refine below_drewN ?_ _ | with_reducible refine Below.drew ?_))) _) _ _, ?_⟩
        (with_reducible refine wpOrd_nil ?_); refine NoPanic.normal ?_
        clear w1' w2' w3'
        go_wp2
        refine bodyPost_ret (v := .tuple #[.agg #[.int .i64 x.note, .slice a1 x.levs.length c1, .int .i64 0, .int .i64 x.weight], .int .i64 0]) (by simp [results, Try.results38, go_sem, hz0, hz1, z0, z1, z2, z3]) rfl ⟨_, rfl, ⟨_, by rw [HS.out, show max 0 (min 10000 (x.slack + q)) = 0 by omega], ?_⟩, ?_⟩
        · exact (hor.touch (B' := 0) (E' := w.heap.size + 2) (by (repeat (first | with_reducible exact Touch.refl _ _ _ | with_reducible exact htc | (with_reducible refine Touch.setCell ?_ ?_ _; rotate_left; · (simp only; omega)) | (with_reducible refine Touch.setNew ?_ ?_ _; rotate_left; · (first | (simp only; omega) | (simp; done) | (simp; omega))) | with_reducible refine Touch.alloc ?_ _ | with_reducible refine Touch.drewN ?_ _ | with_reducible refine Touch.drew ?_))) (by omega)).wide (by omega) (by simp)
        · (repeat (first | with_reducible exact Below.refl _ _ | with_reducible exact hbw | (with_reducible refine Below.setCell ?_ ?_ _; rotate_left; · first | exact Nat.le_refl _ | omega | (simp; done) | (simp; omega)) | (with_reducible refine Below.alloc ?_ ?_ _; rotate_left; · first | exact Nat.le_refl _ | omega | (simp; done) | (simp; omega)) | with_reducible refine below_drewN ?_ _ | with_reducible refine Below.drew ?_))
      · by_cases e2 : 10000 < x.slack + q
        · (repeat (with_reducible refine wpOrd_soft (fun K hK => ?_); simp only [List.getElem?_toArray, List.getElem?_cons_zero, List.getElem?_cons_succ]; first | (go_simp; refine hK _ ?_) | (simp only [undef]; go_simp; refine hK _ ?_); clear hK K))
          (with_reducible refine wpOrd_hard ?_; simp only [List.getElem?_toArray, List.getElem?_cons_zero, List.getElem?_cons_succ])
          go_wp2_with fail
          refine ⟨grown_set (grown_row (by (repeat (first | with_reducible exact Below.refl _ _ | with_reducible exact hbw | (with_reducible refine Below.setCell ?_ ?_ _; rotate_left; · first | exact Nat.le_refl _ | omega | (simp; done) | (simp; omega)) | (with_reducible refine Below.alloc ?_ ?_ _; rotate_left; · first | exact Nat.le_refl _ | omega | (simp; done) | (simp; omega)) | with_reducible refine below_drewN ?_ _ | with_reducible refine Below.drew ?_))) _) _ _, ?_⟩
          (with_reducible refine wpOrd_nil ?_); refine NoPanic.normal ?_
          clear w1' w2' w3'
          go_wp2
          refine bodyPost_ret (v := .tuple #[.agg #[.int .i64 x.note, .slice a1 x.levs.length c1, .int .i64 10000, .int .i64 x.weight], .int .i64 0]) (by simp [results, Try.results38, go_sem, hz0, hz1, z0, z1, z2, z3]) rfl ⟨_, rfl, ⟨_, by rw [HS.out, show max 0 (min 10000 (x.slack + q)) = 10000 by omega], ?_⟩, ?_⟩
          · exact (hor.touch (B' := 0) (E' := w.heap.size + 2) (by (repeat (first | with_reducible exact Touch.refl _ _ _ | with_reducible exact htc | (with_reducible refine Touch.setCell ?_ ?_ _; rotate_left; · (simp only; omega)) | (with_reducible refine Touch.setNew ?_ ?_ _; rotate_left; · (first | (simp only; omega) | (simp; done) | (simp; omega))) | with_reducible refine Touch.alloc ?_ _ | with_reducible refine Touch.drewN ?_ _ | with_reducible refine Touch.drew ?_))) (by omega)).wide (by omega) (by simp)
          · (repeat (first | with_reducible exact Below.refl _ _ | with_reducible exact hbw | (with_reducible refine Below.setCell ?_ ?_ _; rotate_left; · first | exact Nat.le_refl _ | omega | (simp; done) | (simp; omega)) | (with_reducible refine Below.alloc ?_ ?_ _; rotate_left; · first | exact Nat.le_refl _ | omega | (simp; done) | (simp; omega)) | with_reducible refine below_drewN ?_ _ | with_reducible refine Below.drew ?_))
        · (repeat (with_reducible refine wpOrd_soft (fun K hK => ?_); simp only [List.getElem?_toArray, List.getElem?_cons_zero, List.getElem?_cons_succ]; first | (go_simp; refine hK _ ?_) | (simp only [undef]; go_simp; refine hK _ ?_); clear hK K))
          (with_reducible refine wpOrd_hard ?_; simp only [List.getElem?_toArray, List.getElem?_cons_zero, List.getElem?_cons_succ])
          go_wp2_with fail
          refine ⟨grown_set (grown_row (by (repeat (first | with_reducible exact Below.refl _ _ | with_reducible exact hbw | (with_reducible refine Below.setCell ?_ ?_ _; rotate_left; · first | exact Nat.le_refl _ | omega | (simp; done) | (simp; omega)) | (with_reducible refine Below.alloc ?_ ?_ _; rotate_left; · first | exact Nat.le_refl _ | omega | (simp; done) | (simp; omega)) | with_reducible refine below_drewN ?_ _ | with_reducible refine Below.drew ?_))) _) _ _, ?_⟩
          (with_reducible refine wpOrd_nil ?_); refine NoPanic.normal ?_
          clear w1' w2' w3'
          go_wp2
          refine bodyPost_ret (v := .tuple #[.agg #[.int .i64 x.note, .slice a1 x.levs.length c1, .int .i64 (x.slack + q), .int .i64 x.weight], .int .i64 0]) (by simp [results, Try.results38, go_sem, hz0, hz1, z0, z1, z2, z3]) rfl ⟨_, rfl, ⟨_, by rw [HS.out, show max 0 (min 10000 (x.slack + q)) = (x.slack + q) by omega], ?_⟩, ?_⟩
          · exact (hor.touch (B' := 0) (E' := w.heap.size + 2) (by (repeat (first | with_reducible exact Touch.refl _ _ _ | with_reducible exact htc | (with_reducible refine Touch.setCell ?_ ?_ _; rotate_left; · (simp only; omega)) | (with_reducible refine Touch.setNew ?_ ?_ _; rotate_left; · (first | (simp only; omega) | (simp; done) | (simp; omega))) | with_reducible refine Touch.alloc ?_ _ | with_reducible refine Touch.drewN ?_ _ | with_reducible refine Touch.drew ?_))) (by omega)).wide (by omega) (by simp)
          · (repeat (first | with_reducible exact Below.refl _ _ | with_reducible exact hbw | (with_reducible refine Below.setCell ?_ ?_ _; rotate_left; · first | exact Nat.le_refl _ | omega | (simp; done) | (simp; omega)) | (with_reducible refine Below.alloc ?_ ?_ _; rotate_left; · first | exact Nat.le_refl _ | omega | (simp; done) | (simp; omega)) | with_reducible refine below_drewN ?_ _ | with_reducible refine Below.drew ?_))
    · obtain ⟨e1, e2⟩ := slack_rng g' gw
      rw [e1, e2]
      clear e1 e2
      by_cases gl : 0 ≤ l ∧ l ≤ 3000000
      · have GL := Lib.hid gl
        have GD := Lib.hid (show ¬ (-60 ≤ d ∧ d ≤ 60) from fun h => gw ⟨gl, h⟩)
        clear gl gw
        go_enter Try.func38, Try.ntmps38
        go_wp2_with fail
        refine (implValidAct_any _ lv x _ ⟨rfl, hlv.mono (by (repeat (first | with_reducible exact Below.refl _ _ | with_reducible exact hbw | (with_reducible refine Below.setCell ?_ ?_ _; rotate_left; · first | exact Nat.le_refl _ | omega | (simp; done) | (simp; omega)) | (with_reducible refine Below.alloc ?_ ?_ _; rotate_left; · first | exact Nat.le_refl _ | omega | (simp; done) | (simp; omega)) | with_reducible refine below_drewN ?_ _ | with_reducible refine Below.drew ?_)))⟩).mono ?_
        rw [g']
        rintro e w1 ⟨rfl, hb⟩
        have hbw : Below w.heap.size w w1 := Below.trans (by (repeat (first | with_reducible exact Below.refl _ _ | with_reducible exact hbw | (with_reducible refine Below.setCell ?_ ?_ _; rotate_left; · first | exact Nat.le_refl _ | omega | (simp; done) | (simp; omega)) | (with_reducible refine Below.alloc ?_ ?_ _; rotate_left; · first | exact Nat.le_refl _ | omega | (simp; done) | (simp; omega)) | with_reducible refine below_drewN ?_ _ | with_reducible refine Below.drew ?_))) (hb.mono (by simp <;> omega))
        have hz := hb.size
        simp only [World.size_alloc] at hz
        have hz0 : w.heap.size < w1.heap.size := by omega
        have hz1 : w.heap.size + 1 < w1.heap.size := by omega
        have y0 : w1.cell? ⟨w.heap.size, 0, none⟩ = some (.int .i64 x.note) := cellL hb (by simp <;> omega) (by simp [go_sem])
        have y1 : w1.cell? ⟨w.heap.size, 1, none⟩ = some lv := cellL hb (by simp <;> omega) (by simp [go_sem])
        have y2 : w1.cell? ⟨w.heap.size, 2, none⟩ = some (.int .i64 x.slack) := cellL hb (by simp <;> omega) (by simp [go_sem])
        have y3 : w1.cell? ⟨w.heap.size, 3, none⟩ = some (.int .i64 x.weight) := cellL hb (by simp <;> omega) (by simp [go_sem])
        have z0 : w1.cell? ⟨w.heap.size + 1, 0, none⟩ = some (.int .i64 0) := cellL hb (by simp <;> omega) (by simp [go_sem])
        have z1 : w1.cell? ⟨w.heap.size + 1, 1, none⟩ = some (.slice none 0 0) := cellL hb (by simp <;> omega) (by simp [go_sem])
        have z2 : w1.cell? ⟨w.heap.size + 1, 2, none⟩ = some (.int .i64 0) := cellL hb (by simp <;> omega) (by simp [go_sem])
        have z3 : w1.cell? ⟨w.heap.size + 1, 3, none⟩ = some (.int .i64 0) := cellL hb (by simp <;> omega) (by simp [go_sem])
        have f1 : ∀ o, w1.frozen? ⟨w.heap.size + 1, o, none⟩ = false := fun o => frozenL hb (by simp <;> omega) (by simp [go_sem])
        clear hb
        go_wp2_with fail
        refine (within_any true _ _ _ _ (yesB GL.out)).mono ?_
        rintro e w2 ⟨rfl, rfl⟩
        go_wp2_with fail
        refine (within_any false _ _ _ _ (noB GD.out)).mono ?_
        rintro e w2 ⟨rfl, rfl⟩
        go_wp2
        refine bodyPost_ret (v := .tuple #[.agg #[.int .i64 0, .slice none 0 0, .int .i64 0, .int .i64 0], .int .i64 2]) (by simp [results, Try.results38, go_sem, hz0, hz1, z0, z1, z2, z3]) rfl ⟨_, rfl, own_zero _ _ _, ?_⟩
        (repeat (first | with_reducible exact Below.refl _ _ | with_reducible exact hbw | (with_reducible refine Below.setCell ?_ ?_ _; rotate_left; · first | exact Nat.le_refl _ | omega | (simp; done) | (simp; omega)) | (with_reducible refine Below.alloc ?_ ?_ _; rotate_left; · first | exact Nat.le_refl _ | omega | (simp; done) | (simp; omega)) | with_reducible refine below_drewN ?_ _ | with_reducible refine Below.drew ?_))
      · have GL := Lib.hid gl; clear gl gw
        go_enter Try.func38, Try.ntmps38
        go_wp2_with fail
        refine (implValidAct_any _ lv x _ ⟨rfl, hlv.mono (by (repeat (first | with_reducible exact Below.refl _ _ | with_reducible exact hbw | (with_reducible refine Below.setCell ?_ ?_ _; rotate_left; · first | exact Nat.le_refl _ | omega | (simp; done) | (simp; omega)) | (with_reducible refine Below.alloc ?_ ?_ _; rotate_left; · first | exact Nat.le_refl _ | omega | (simp; done) | (simp; omega)) | with_reducible refine below_drewN ?_ _ | with_reducible refine Below.drew ?_)))⟩).mono ?_
        rw [g']
        rintro e w1 ⟨rfl, hb⟩
        have hbw : Below w.heap.size w w1 := Below.trans (by (repeat (first | with_reducible exact Below.refl _ _ | with_reducible exact hbw | (with_reducible refine Below.setCell ?_ ?_ _; rotate_left; · first | exact Nat.le_refl _ | omega | (simp; done) | (simp; omega)) | (with_reducible refine Below.alloc ?_ ?_ _; rotate_left; · first | exact Nat.le_refl _ | omega | (simp; done) | (simp; omega)) | with_reducible refine below_drewN ?_ _ | with_reducible refine Below.drew ?_))) (hb.mono (by simp <;> omega))
        have hz := hb.size
        simp only [World.size_alloc] at hz
        have hz0 : w.heap.size < w1.heap.size := by omega
        have hz1 : w.heap.size + 1 < w1.heap.size := by omega
        have y0 : w1.cell? ⟨w.heap.size, 0, none⟩ = some (.int .i64 x.note) := cellL hb (by simp <;> omega) (by simp [go_sem])
        have y1 : w1.cell? ⟨w.heap.size, 1, none⟩ = some lv := cellL hb (by simp <;> omega) (by simp [go_sem])
        have y2 : w1.cell? ⟨w.heap.size, 2, none⟩ = some (.int .i64 x.slack) := cellL hb (by simp <;> omega) (by simp [go_sem])
        have y3 : w1.cell? ⟨w.heap.size, 3, none⟩ = some (.int .i64 x.weight) := cellL hb (by simp <;> omega) (by simp [go_sem])
        have z0 : w1.cell? ⟨w.heap.size + 1, 0, none⟩ = some (.int .i64 0) := cellL hb (by simp <;> omega) (by simp [go_sem])
        have z1 : w1.cell? ⟨w.heap.size + 1, 1, none⟩ = some (.slice none 0 0) := cellL hb (by simp <;> omega) (by simp [go_sem])
        have z2 : w1.cell? ⟨w.heap.size + 1, 2, none⟩ = some (.int .i64 0) := cellL hb (by simp <;> omega) (by simp [go_sem])
        have z3 : w1.cell? ⟨w.heap.size + 1, 3, none⟩ = some (.int .i64 0) := cellL hb (by simp <;> omega) (by simp [go_sem])
        have f1 : ∀ o, w1.frozen? ⟨w.heap.size + 1, o, none⟩ = false := fun o => frozenL hb (by simp <;> omega) (by simp [go_sem])
        clear hb
        go_wp2_with fail
        refine (within_any false _ _ _ _ (noB GL.out)).mono ?_
        rintro e w2 ⟨rfl, rfl⟩
        go_wp2
        refine bodyPost_ret (v := .tuple #[.agg #[.int .i64 0, .slice none 0 0, .int .i64 0, .int .i64 0], .int .i64 2]) (by simp [results, Try.results38, go_sem, hz0, hz1, z0, z1, z2, z3]) rfl ⟨_, rfl, own_zero _ _ _, ?_⟩
        (repeat (first | with_reducible exact Below.refl _ _ | with_reducible exact hbw | (with_reducible refine Below.setCell ?_ ?_ _; rotate_left; · first | exact Nat.le_refl _ | omega | (simp; done) | (simp; omega)) | (with_reducible refine Below.alloc ?_ ?_ _; rotate_left; · first | exact Nat.le_refl _ | omega | (simp; done) | (simp; omega)) | with_reducible refine below_drewN ?_ _ | with_reducible refine Below.drew ?_))
  · have g' : validActB x = false := by rw [← Bool.not_eq_true, validActB_iff]; exact gx
    clear gx
    obtain ⟨e1, e2⟩ := slack_inv (l := l) (d := d) g'
    rw [e1, e2]
    clear e1 e2
    go_enter Try.func38, Try.ntmps38
    go_wp2_with fail
    refine (implValidAct_any _ lv x _ ⟨rfl, hlv.mono (by (repeat (first | with_reducible exact Below.refl _ _ | with_reducible exact hbw | (with_reducible refine Below.setCell ?_ ?_ _; rotate_left; · first | exact Nat.le_refl _ | omega | (simp; done) | (simp; omega)) | (with_reducible refine Below.alloc ?_ ?_ _; rotate_left; · first | exact Nat.le_refl _ | omega | (simp; done) | (simp; omega)) | with_reducible refine below_drewN ?_ _ | with_reducible refine Below.drew ?_)))⟩).mono ?_
    rw [g']
    rintro e w1 ⟨rfl, hb⟩
    have hbw : Below w.heap.size w w1 := Below.trans (by (repeat (first | with_reducible exact Below.refl _ _ | with_reducible exact hbw | (with_reducible refine Below.setCell ?_ ?_ _; rotate_left; · first | exact Nat.le_refl _ | omega | (simp; done) | (simp; omega)) | (with_reducible refine Below.alloc ?_ ?_ _; rotate_left; · first | exact Nat.le_refl _ | omega | (simp; done) | (simp; omega)) | with_reducible refine below_drewN ?_ _ | with_reducible refine Below.drew ?_))) (hb.mono (by simp <;> omega))
    have hz := hb.size
    simp only [World.size_alloc] at hz
    have hz0 : w.heap.size < w1.heap.size := by omega
    have hz1 : w.heap.size + 1 < w1.heap.size := by omega
    have y0 : w1.cell? ⟨w.heap.size, 0, none⟩ = some (.int .i64 x.note) := cellL hb (by simp <;> omega) (by simp [go_sem])
    have y1 : w1.cell? ⟨w.heap.size, 1, none⟩ = some lv := cellL hb (by simp <;> omega) (by simp [go_sem])
    have y2 : w1.cell? ⟨w.heap.size, 2, none⟩ = some (.int .i64 x.slack) := cellL hb (by simp <;> omega) (by simp [go_sem])
    have y3 : w1.cell? ⟨w.heap.size, 3, none⟩ = some (.int .i64 x.weight) := cellL hb (by simp <;> omega) (by simp [go_sem])
    have z0 : w1.cell? ⟨w.heap.size + 1, 0, none⟩ = some (.int .i64 0) := cellL hb (by simp <;> omega) (by simp [go_sem])
    have z1 : w1.cell? ⟨w.heap.size + 1, 1, none⟩ = some (.slice none 0 0) := cellL hb (by simp <;> omega) (by simp [go_sem])
    have z2 : w1.cell? ⟨w.heap.size + 1, 2, none⟩ = some (.int .i64 0) := cellL hb (by simp <;> omega) (by simp [go_sem])
    have z3 : w1.cell? ⟨w.heap.size + 1, 3, none⟩ = some (.int .i64 0) := cellL hb (by simp <;> omega) (by simp [go_sem])
    have f1 : ∀ o, w1.frozen? ⟨w.heap.size + 1, o, none⟩ = false := fun o => frozenL hb (by simp <;> omega) (by simp [go_sem])
    clear hb
    go_wp2
    refine bodyPost_ret (v := .tuple #[.agg #[.int .i64 0, .slice none 0 0, .int .i64 0, .int .i64 0], .int .i64 1]) (by simp [results, Try.results38, go_sem, hz0, hz1, z0, z1, z2, z3]) rfl ⟨_, rfl, own_zero _ _ _, ?_⟩
    (repeat (first | with_reducible exact Below.refl _ _ | with_reducible exact hbw | (with_reducible refine Below.setCell ?_ ?_ _; rotate_left; · first | exact Nat.le_refl _ | omega | (simp; done) | (simp; omega)) | (with_reducible refine Below.alloc ?_ ?_ _; rotate_left; · first | exact Nat.le_refl _ | omega | (simp; done) | (simp; omega)) | with_reducible refine below_drewN ?_ _ | with_reducible refine Below.drew ?_))

end Go.Proofs.Ytjmapbgbmgaljaa
