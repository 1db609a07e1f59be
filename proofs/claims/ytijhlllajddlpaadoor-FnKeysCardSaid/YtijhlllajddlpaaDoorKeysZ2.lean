import Derived.Test.YtijhlllajddlpaaDoorByts
import Derived.Test.YtijhlllajddlpaaDoorAct
import Derived.Test.YtijhlllajddlpaaDoorDraw24
import Derived.Test.YtijhlllajddlpaaDoorBend
import Derived.Test.YtijhlllajddlpaaDoorOwnAct
/- The laws' test of the length of their bytes. -/
set_option linter.unusedSimpArgs false
set_option linter.unnecessarySimpa false
set_option linter.unusedVariables false
set_option maxRecDepth 100000
namespace Go.Proofs.YtijhlllajddlpaaDoor
open Go.RowKit

theorem b10Long_any (a : Option Addr) (n c : Nat) (w : World) (hn : n ≤ 9223372036854775807) : Calls Tryd.prog 15 #[.slice a n c] w fun e w' => e = .returned (.bool (decide (1048576 < (n : Int)))) ∧ w = w' := by
  by_cases g : 1048576 < (n : Int)
  · have d1 : decide (1048576 < (n : Int)) = true := by simpa using g
    have d2 : decide (1048576 < n) = true := by simp; omega
    have D := Lib.hid d1
    clear g
    go_enter Tryd.func15, Tryd.ntmps15
    go_wp2
    go_ret
    exact ⟨by rw [D.out]; rfl, rfl⟩
  · have d1 : decide (1048576 < (n : Int)) = false := by simpa using g
    have d2 : decide (1048576 < n) = false := by simp; omega
    have D := Lib.hid d1
    clear g
    go_enter Tryd.func15, Tryd.ntmps15
    go_wp2
    go_ret
    exact ⟨by rw [D.out]; rfl, rfl⟩

end Go.Proofs.YtijhlllajddlpaaDoor
/- SameAction of both packages. -/
set_option linter.unusedSimpArgs false
set_option linter.unnecessarySimpa false
set_option linter.unusedVariables false
namespace Go.Proofs.YtijhlllajddlpaaDoor
open Go.RowKit

theorem same_true {x y : ActD} (h1 : x.note = y.note) (h2 : x.levs = y.levs) (h3 : x.slack = y.slack) (h4 : x.weight = y.weight) : true = decide (x = y) := by
  symm; apply decide_eq_true; rw [ActD.ext_iff']; exact ⟨h1, h2, h3, h4⟩
theorem same_false {x y : ActD} (h : ¬ (x.note = y.note ∧ x.levs = y.levs ∧ x.slack = y.slack ∧ x.weight = y.weight)) : false = decide (x = y) := by
  symm; apply decide_eq_false; rw [ActD.ext_iff']; exact h

set_option maxHeartbeats 1000000 in
theorem implSameAct_any (v1 l1 v2 l2 : Value) (x y : ActD) (w : World) (h1 : Acc w v1 l1 x) (h2 : Acc w v2 l2 y) :
    Calls Tryd.prog 19 #[v1, v2] w fun e w' => e = .returned (.bool (decide (x = y))) ∧ Below w.heap.size w w' := by
  obtain ⟨rfl, hl1⟩ := h1
  obtain ⟨rfl, hl2⟩ := h2
  by_cases e1 : x.note = y.note
  · have b1 : (x.note == y.note) = true := by simpa using e1
    have E1 := Lib.hid e1; clear e1
    go_enter Tryd.func19, Tryd.ntmps19
    go_wp2_with fail
    refine (equalLevs_any l1 l2 x.levs y.levs _ (hl1.mono (by (repeat (first | with_reducible exact Below.refl _ _ | with_reducible exact hbw | (with_reducible refine Below.setCell ?_ ?_ _; rotate_left; · first | exact Nat.le_refl _ | omega | (simp; done) | (simp; omega)) | (with_reducible refine Below.alloc ?_ ?_ _; rotate_left; · first | exact Nat.le_refl _ | omega | (simp; done) | (simp; omega)) | with_reducible refine below_drewN ?_ _ | with_reducible refine Below.drew ?_)))) (hl2.mono (by (repeat (first | with_reducible exact Below.refl _ _ | with_reducible exact hbw | (with_reducible refine Below.setCell ?_ ?_ _; rotate_left; · first | exact Nat.le_refl _ | omega | (simp; done) | (simp; omega)) | (with_reducible refine Below.alloc ?_ ?_ _; rotate_left; · first | exact Nat.le_refl _ | omega | (simp; done) | (simp; omega)) | with_reducible refine below_drewN ?_ _ | with_reducible refine Below.drew ?_))))).mono ?_
    rintro e w1 ⟨rfl, hb⟩
    obtain ⟨hc, hf⟩ := bcell hb
    have hz : w.heap.size + 1 < w1.heap.size := by have := hb.size; simp at this; omega
    have hbw : Below w.heap.size w w1 := Below.trans (by (repeat (first | with_reducible exact Below.refl _ _ | with_reducible exact hbw | (with_reducible refine Below.setCell ?_ ?_ _; rotate_left; · first | exact Nat.le_refl _ | omega | (simp; done) | (simp; omega)) | (with_reducible refine Below.alloc ?_ ?_ _; rotate_left; · first | exact Nat.le_refl _ | omega | (simp; done) | (simp; omega)) | with_reducible refine below_drewN ?_ _ | with_reducible refine Below.drew ?_))) (hb.mono (by simp <;> omega))
    clear hb
    by_cases e2 : x.levs = y.levs
    · have b2 : decide (x.levs = y.levs) = true := by simpa using e2
      have E2 := Lib.hid e2; clear e2
      by_cases e3 : x.slack = y.slack
      · have b3 : (x.slack == y.slack) = true := by simpa using e3
        have E3 := Lib.hid e3; clear e3
        by_cases e4 : x.weight = y.weight
        · have b4 : (x.weight == y.weight) = true := by simpa using e4
          have E4 := Lib.hid e4; clear e4
          go_wp2
          go_ret
          exact ⟨ret_bool (same_true E1.out E2.out E3.out E4.out), hbw⟩
        · have b4 : (x.weight == y.weight) = false := by simpa using e4
          have E4 := Lib.hid e4; clear e4
          go_wp2
          go_ret
          exact ⟨ret_bool (same_false fun h => E4.out h.2.2.2), hbw⟩
      · have b3 : (x.slack == y.slack) = false := by simpa using e3
        have E3 := Lib.hid e3; clear e3
        go_wp2
        go_ret
        exact ⟨ret_bool (same_false fun h => E3.out h.2.2.1), hbw⟩
    · have b2 : decide (x.levs = y.levs) = false := by simpa using e2
      have E2 := Lib.hid e2; clear e2
      go_wp2
      go_ret
      exact ⟨ret_bool (same_false fun h => E2.out h.2.1), hbw⟩
  · have b1 : (x.note == y.note) = false := by simpa using e1
    have E1 := Lib.hid e1; clear e1
    go_enter Tryd.func19, Tryd.ntmps19
    go_wp2
    go_ret
    refine ⟨ret_bool (same_false fun h => E1.out h.1), ?_⟩
    (repeat (first | with_reducible exact Below.refl _ _ | with_reducible exact hbw | (with_reducible refine Below.setCell ?_ ?_ _; rotate_left; · first | exact Nat.le_refl _ | omega | (simp; done) | (simp; omega)) | (with_reducible refine Below.alloc ?_ ?_ _; rotate_left; · first | exact Nat.le_refl _ | omega | (simp; done) | (simp; omega)) | with_reducible refine below_drewN ?_ _ | with_reducible refine Below.drew ?_))

/-- An action lies in block b, its levers at lv. -/
structure ActAt (w : World) (b : Nat) (lv : Value) (x : ActD) : Prop where
  c0 : w.cell? ⟨b, 0, none⟩ = some (.int .i64 x.note)
  c1 : w.cell? ⟨b, 1, none⟩ = some lv
  c2 : w.cell? ⟨b, 2, none⟩ = some (.int .i64 x.slack)
  c3 : w.cell? ⟨b, 3, none⟩ = some (.int .i64 x.weight)
  levs : Levs w lv x.levs

end Go.Proofs.YtijhlllajddlpaaDoor
/- The draws of the law FnKeys: an action and a number. Contracts of DrawTravelFor and DrawMotionAt. -/
set_option linter.unusedSimpArgs false
set_option linter.unnecessarySimpa false
set_option linter.unusedVariables false
set_option maxRecDepth 100000
namespace Go.Proofs.YtijhlllajddlpaaDoor
open Go.RowKit

def DrawnAI (w : World) (e : Ending) (w' : World) : Prop :=
  ∃ (v : Value) (x : ActD) (t : Int), e = .returned (.tuple #[v, .int .i64 t]) ∧ OwnAct w.heap.size w'.heap.size w' v x ∧ smA x ∧ smN t ∧ Below w.heap.size w w'
theorem Only.belowP {p K : Nat} {u : Option Nat} {w w' : World} (h : Only p u w w') (hp : K ≤ p) (hK : K ≤ w.heap.size) (hu : ∀ q, u = some q → K ≤ q) : Below K w w' :=
  ⟨h.os, h.tape, h.output, h.size, fun k hk => h.block k (by omega) (by omega) (fun e => by have := hu k e.symm; omega)⟩


set_option maxHeartbeats 400000 in
theorem DrawTravelFor_any (w : World) (v0 : Value) (x0 : List Int) (h0 : Byts w v0 x0) (o0 : okByts x0) :
    Calls Tryd.prog 16 #[v0] w (DrawnAI w) := by
  obtain ⟨a0, ca, rfl, _, _, _⟩ := id h0
  go_enter Tryd.func16, Tryd.ntmps16
  go_wp2_with fail
  obtain ⟨w0, hw0⟩ : ∃ w0, w0 = w.alloc (.cells #[.int .i64 0, .slice none 0 0, .int .i64 0, .int .i64 0] 29) := ⟨_, rfl⟩
  have HB0 := Lib.hid (show Below w.heap.size w w0 by rw [hw0]; exact belowA _ _)
  have hz0 : w0.heap.size = w.heap.size + 1 := by rw [hw0]; simp
  have B0 := Lib.hid (show Box w0 w.heap.size [.int .i64 0, .slice none 0 0, .int .i64 0, .int .i64 0] by rw [hw0]; exact Box.alloc w _ _ w.heap.size rfl)
  have HC := Lib.hid (show Byts w0 (.slice a0 x0.length ca) x0 from h0.mono HB0.out)
  rw [← hw0]
  clear hw0
  refine (l00From_any a0 x0.length ca _).mono ?_
  rintro e w1 ⟨rfl, hs, hz1⟩
  obtain ⟨p, hp⟩ : ∃ p, p = w0.heap.size := ⟨_, rfl⟩
  rw [← hp] at hs ⊢
  have hpw : w.heap.size < p := by omega
  have hp1 : p < w1.heap.size := by omega
  have hlow := hs.below
  have HS := Lib.hid hs
  have B1 := Lib.hid (B0.out.step hlow (by have := B0.out.lt; omega))
  have HB1 := Lib.hid (Below.trans HB0.out (hlow.mono (by omega)))
  clear hs hlow B0 hz0 hz1 hp
  go_wp2_with fail
  refine (l24DrawOne_any w0 p 0 _ x0 w1 HC.out o0 HS.out (by omega)).mono ?_
  rintro e w2 ⟨v', x, m2, rfl, hown, hsm, hl3, m20, m21, hs2, ht2⟩
  obtain ⟨a3, c3, rfl⟩ := hown.form
  have hz2 := ht2.size
  have B2 := Lib.hid (B1.out.touch ht2 (.inl (by omega)))
  have HB2 := Lib.hid (ht2.below HB1.out (by omega) (by omega))
  have HRW := Lib.hid hown.row
  have HSM := Lib.hid hsm
  have HS2 := Lib.hid hs2
  clear hown hsm hs2 ht2 B1 HB1 HS
  go_wp2_with fail
  refine (l24Bend_any w0 p m2 w1.heap.size _ x0 w2 x a3 c3 HC.out o0 HS2.out (by omega) HRW.out.1 (by omega) hz2 HSM.out (by omega)).mono ?_
  rintro e w3 ⟨y, a4, c4, m3, rfl, ysm, m30, m31, hs3, hon, hrow, hat⟩
  have hz3 := hon.size
  have hbl := hon.belowP (K := p) (Nat.le_refl _) (by omega) (fun q hq => by have := (HRW.out.1.lt q hq).1; omega)
  have B3 := Lib.hid (B2.out.step hbl (by omega))
  have HB3 := Lib.hid (HB2.out.trans (hbl.mono (by omega)))
  have HRY := Lib.hid (show OwnRow w1.heap.size w3.heap.size w3 54 2 (.slice a4 y.levs.length c4) y.levs.length (y.levs.flatMap Lev.cells) from OwnRow.mk' hrow)
  have HYS := Lib.hid ysm
  have HS3 := Lib.hid hs3
  clear hs3 hon hrow hat ysm hbl B2 HB2 HRW HSM HS2
  unfold lv2
  obtain ⟨q, hq⟩ : ∃ q, q = w3.heap.size := ⟨_, rfl⟩
  go_wp2_with fail
  rw [← hq]
  obtain ⟨w4, hw4⟩ : ∃ w4, w4 = w3.alloc (.cells #[.int .i64 y.note, .slice a4 y.levs.length c4, .int .i64 y.slack, .int .i64 y.weight] 29) := ⟨_, rfl⟩
  have hal : Below w3.heap.size w3 w4 := by rw [hw4]; exact belowA _ _
  have BQ := Lib.hid (show Box w4 q [.int .i64 y.note, .slice a4 y.levs.length c4, .int .i64 y.slack, .int .i64 y.weight] by rw [hw4]; exact Box.alloc w3 _ _ q hq.symm)
  have B4 := Lib.hid (B3.out.mono hal)
  have HRY := Lib.hid (HRY.out.mono hal)
  have HS4 := Lib.hid (HS3.out.mono hal)
  have HB4 := Lib.hid (HB3.out.trans (hal.mono (by omega)))
  have hz4 : q < w4.heap.size := by rw [hw4]; simp; omega
  have hqz : q ≤ w3.heap.size := by omega
  have hqz2 : w3.heap.size ≤ q := by omega
  rw [← hw4]
  clear hw4 hal B3 HB3 HS3 hq
  refine (pick_any w0 p m3 _ x0 9000 w4 HC.out o0 HS4.out (by omega) (by omega) (by omega)).mono ?_
  rintro e w5 ⟨r, m5, rfl, r0, r1, m50, m51, hs5, ht5⟩
  have hz5 := ht5.size
  have BQ := Lib.hid (BQ.out.touch ht5 (.inr (by omega)))
  have B5 := Lib.hid (B4.out.touch ht5 (.inl (by omega)))
  have HRY := Lib.hid (HRY.out.touch ht5 (.inr (by omega)))
  have HB5 := Lib.hid (ht5.below HB4.out (by omega) (by omega))
  have HS5 := Lib.hid hs5
  have hR : smN r := by unfold smN; omega
  have HR := Lib.hid hR
  clear hs5 ht5 B4 HB4 HS4 hR
  go_wp2_with fail
  refine (one_any w0 p m5 _ x0 8 w5 HC.out o0 HS5.out (by omega) (by omega) (by omega)).mono ?_
  rintro e w6 ⟨b, m6, rfl, m60, m61, hs6, ht6⟩
  have hz6 := ht6.size
  have BQ := Lib.hid (BQ.out.touch ht6 (.inr (by omega)))
  have B6 := Lib.hid (B5.out.touch ht6 (.inl (by omega)))
  have HRY := Lib.hid (HRY.out.touch ht6 (.inr (by omega)))
  have HB6 := Lib.hid (ht6.below HB5.out (by omega) (by omega))
  have HS6 := Lib.hid hs6
  have hqw : q < w6.heap.size := by omega
  have hw6 : w.heap.size < w6.heap.size := by omega
  clear hs6 ht6 B5 HB5 HS5
  cases b
  · skip
    have u0 := BQ.out.at' 0 _ rfl
    have u1 := BQ.out.at' 1 _ rfl
    have u2 := BQ.out.at' 2 _ rfl
    have u3 := BQ.out.at' 3 _ rfl
    have s0 := B6.out.at' 0 _ rfl
    have s1 := B6.out.at' 1 _ rfl
    have s2 := B6.out.at' 2 _ rfl
    have s3 := B6.out.at' 3 _ rfl
    have f0 := B6.out.fr 0
    have f1 := B6.out.fr 1
    have f2 := B6.out.fr 2
    have f3 := B6.out.fr 3
    have l0 := B6.out.lt
    go_wp2
    refine bodyPost_ret (v := .tuple #[.agg #[.int .i64 y.note, .slice a4 y.levs.length c4, .int .i64 y.slack, .int .i64 y.weight], .int .i64 r]) (by simp [results, Tryd.results16, go_sem, s0, s1, s2, s3, f0, f1, f2, f3, l0]) rfl ⟨_, y, r, rfl, ⟨_, rfl, ?_⟩, HYS.out, HR.out, ?_⟩
    · refine (HRY.out.touch (B' := w.heap.size) (E' := w.heap.size + 1) ?_ (Or.inr (by omega))).wide (by omega) (by first | (simp; done) | (simp; omega))
      have htc := Touch.refl w.heap.size (w.heap.size + 1) w6
      (repeat (first | with_reducible exact Touch.refl _ _ _ | with_reducible exact htc | (with_reducible refine Touch.setCell ?_ ?_ _; rotate_left; · (simp only; omega)) | (with_reducible refine Touch.setNew ?_ ?_ _; rotate_left; · (first | (simp only; omega) | (simp; done) | (simp; omega))) | with_reducible refine Touch.alloc ?_ _ | with_reducible refine Touch.drewN ?_ _ | with_reducible refine Touch.drew ?_))
    · have hbw := HB6.out
      (repeat (first | with_reducible exact Below.refl _ _ | with_reducible exact hbw | (with_reducible refine Below.setCell ?_ ?_ _; rotate_left; · first | exact Nat.le_refl _ | omega | (simp; done) | (simp; omega)) | (with_reducible refine Below.alloc ?_ ?_ _; rotate_left; · first | exact Nat.le_refl _ | omega | (simp; done) | (simp; omega)) | with_reducible refine below_drewN ?_ _ | with_reducible refine Below.drew ?_))
  · go_wp2_with fail
    refine (among_lit w0 p m6 _ x0 [-1, 0, 1000000, 1000001, 1] 5 w6.heap.size w6 HC.out o0 HS6.out (by omega) rfl rfl (by simp) (by simp)).mono ?_
    rintro e w7 ⟨t, m7, rfl, ht, m70, m71, hs7, ht7⟩
    have HT := Lib.hid (show smN t by simp only [List.mem_cons, List.not_mem_nil, or_false] at ht; unfold smN; omega)
    have hz7 := ht7.size
    have BQ := Lib.hid (BQ.out.touch ht7 (.inr (by omega)))
    have B7 := Lib.hid (B6.out.touch ht7 (.inl (by omega)))
    have HRY := Lib.hid (HRY.out.touch ht7 (.inr (by omega)))
    have HB7 := Lib.hid (ht7.below HB6.out (by omega) (by omega))
    clear ht hs7 ht7 B6 HB6 HS6
    have u0 := BQ.out.at' 0 _ rfl
    have u1 := BQ.out.at' 1 _ rfl
    have u2 := BQ.out.at' 2 _ rfl
    have u3 := BQ.out.at' 3 _ rfl
    have s0 := B7.out.at' 0 _ rfl
    have s1 := B7.out.at' 1 _ rfl
    have s2 := B7.out.at' 2 _ rfl
    have s3 := B7.out.at' 3 _ rfl
    have f0 := B7.out.fr 0
    have f1 := B7.out.fr 1
    have f2 := B7.out.fr 2
    have f3 := B7.out.fr 3
    have l0 := B7.out.lt
    go_wp2
    refine bodyPost_ret (v := .tuple #[.agg #[.int .i64 y.note, .slice a4 y.levs.length c4, .int .i64 y.slack, .int .i64 y.weight], .int .i64 t]) (by simp [results, Tryd.results16, go_sem, s0, s1, s2, s3, f0, f1, f2, f3, l0]) rfl ⟨_, y, t, rfl, ⟨_, rfl, ?_⟩, HYS.out, HT.out, ?_⟩
    · refine (HRY.out.touch (B' := w.heap.size) (E' := w.heap.size + 1) ?_ (Or.inr (by omega))).wide (by omega) (by first | (simp; done) | (simp; omega))
      have htc := Touch.refl w.heap.size (w.heap.size + 1) w7
      (repeat (first | with_reducible exact Touch.refl _ _ _ | with_reducible exact htc | (with_reducible refine Touch.setCell ?_ ?_ _; rotate_left; · (simp only; omega)) | (with_reducible refine Touch.setNew ?_ ?_ _; rotate_left; · (first | (simp only; omega) | (simp; done) | (simp; omega))) | with_reducible refine Touch.alloc ?_ _ | with_reducible refine Touch.drewN ?_ _ | with_reducible refine Touch.drew ?_))
    · have hbw := HB7.out
      (repeat (first | with_reducible exact Below.refl _ _ | with_reducible exact hbw | (with_reducible refine Below.setCell ?_ ?_ _; rotate_left; · first | exact Nat.le_refl _ | omega | (simp; done) | (simp; omega)) | (with_reducible refine Below.alloc ?_ ?_ _; rotate_left; · first | exact Nat.le_refl _ | omega | (simp; done) | (simp; omega)) | with_reducible refine below_drewN ?_ _ | with_reducible refine Below.drew ?_))

set_option maxHeartbeats 400000 in
theorem DrawMotionAt_any (w : World) (v0 : Value) (x0 : List Int) (h0 : Byts w v0 x0) (o0 : okByts x0) :
    Calls Tryd.prog 21 #[v0] w (DrawnAI w) := by
  obtain ⟨a0, ca, rfl, _, _, _⟩ := id h0
  go_enter Tryd.func21, Tryd.ntmps21
  go_wp2_with fail
  obtain ⟨w0, hw0⟩ : ∃ w0, w0 = w.alloc (.cells #[.int .i64 0, .slice none 0 0, .int .i64 0, .int .i64 0] 29) := ⟨_, rfl⟩
  have HB0 := Lib.hid (show Below w.heap.size w w0 by rw [hw0]; exact belowA _ _)
  have hz0 : w0.heap.size = w.heap.size + 1 := by rw [hw0]; simp
  have B0 := Lib.hid (show Box w0 w.heap.size [.int .i64 0, .slice none 0 0, .int .i64 0, .int .i64 0] by rw [hw0]; exact Box.alloc w _ _ w.heap.size rfl)
  have HC := Lib.hid (show Byts w0 (.slice a0 x0.length ca) x0 from h0.mono HB0.out)
  rw [← hw0]
  clear hw0
  refine (l00From_any a0 x0.length ca _).mono ?_
  rintro e w1 ⟨rfl, hs, hz1⟩
  obtain ⟨p, hp⟩ : ∃ p, p = w0.heap.size := ⟨_, rfl⟩
  rw [← hp] at hs ⊢
  have hpw : w.heap.size < p := by omega
  have hp1 : p < w1.heap.size := by omega
  have hlow := hs.below
  have HS := Lib.hid hs
  have B1 := Lib.hid (B0.out.step hlow (by have := B0.out.lt; omega))
  have HB1 := Lib.hid (Below.trans HB0.out (hlow.mono (by omega)))
  clear hs hlow B0 hz0 hz1 hp
  go_wp2_with fail
  refine (l24DrawOne_any w0 p 0 _ x0 w1 HC.out o0 HS.out (by omega)).mono ?_
  rintro e w2 ⟨v', x, m2, rfl, hown, hsm, hl3, m20, m21, hs2, ht2⟩
  obtain ⟨a3, c3, rfl⟩ := hown.form
  have hz2 := ht2.size
  have B2 := Lib.hid (B1.out.touch ht2 (.inl (by omega)))
  have HB2 := Lib.hid (ht2.below HB1.out (by omega) (by omega))
  have HRW := Lib.hid hown.row
  have HSM := Lib.hid hsm
  have HS2 := Lib.hid hs2
  clear hown hsm hs2 ht2 B1 HB1 HS
  go_wp2_with fail
  refine (l24Bend_any w0 p m2 w1.heap.size _ x0 w2 x a3 c3 HC.out o0 HS2.out (by omega) HRW.out.1 (by omega) hz2 HSM.out (by omega)).mono ?_
  rintro e w3 ⟨y, a4, c4, m3, rfl, ysm, m30, m31, hs3, hon, hrow, hat⟩
  have hz3 := hon.size
  have hbl := hon.belowP (K := p) (Nat.le_refl _) (by omega) (fun q hq => by have := (HRW.out.1.lt q hq).1; omega)
  have B3 := Lib.hid (B2.out.step hbl (by omega))
  have HB3 := Lib.hid (HB2.out.trans (hbl.mono (by omega)))
  have HRY := Lib.hid (show OwnRow w1.heap.size w3.heap.size w3 54 2 (.slice a4 y.levs.length c4) y.levs.length (y.levs.flatMap Lev.cells) from OwnRow.mk' hrow)
  have HYS := Lib.hid ysm
  have HS3 := Lib.hid hs3
  clear hs3 hon hrow hat ysm hbl B2 HB2 HRW HSM HS2
  unfold lv2
  obtain ⟨q, hq⟩ : ∃ q, q = w3.heap.size := ⟨_, rfl⟩
  go_wp2_with fail
  rw [← hq]
  obtain ⟨w4, hw4⟩ : ∃ w4, w4 = w3.alloc (.cells #[.int .i64 y.note, .slice a4 y.levs.length c4, .int .i64 y.slack, .int .i64 y.weight] 29) := ⟨_, rfl⟩
  have hal : Below w3.heap.size w3 w4 := by rw [hw4]; exact belowA _ _
  have BQ := Lib.hid (show Box w4 q [.int .i64 y.note, .slice a4 y.levs.length c4, .int .i64 y.slack, .int .i64 y.weight] by rw [hw4]; exact Box.alloc w3 _ _ q hq.symm)
  have B4 := Lib.hid (B3.out.mono hal)
  have HRY := Lib.hid (HRY.out.mono hal)
  have HS4 := Lib.hid (HS3.out.mono hal)
  have HB4 := Lib.hid (HB3.out.trans (hal.mono (by omega)))
  have hz4 : q < w4.heap.size := by rw [hw4]; simp; omega
  have hqz : q ≤ w3.heap.size := by omega
  have hqz2 : w3.heap.size ≤ q := by omega
  rw [← hw4]
  clear hw4 hal B3 HB3 HS3 hq
  refine (pick_any w0 p m3 _ x0 8000 w4 HC.out o0 HS4.out (by omega) (by omega) (by omega)).mono ?_
  rintro e w5 ⟨r, m5, rfl, r0, r1, m50, m51, hs5, ht5⟩
  have hz5 := ht5.size
  have BQ := Lib.hid (BQ.out.touch ht5 (.inr (by omega)))
  have B5 := Lib.hid (B4.out.touch ht5 (.inl (by omega)))
  have HRY := Lib.hid (HRY.out.touch ht5 (.inr (by omega)))
  have HB5 := Lib.hid (ht5.below HB4.out (by omega) (by omega))
  have HS5 := Lib.hid hs5
  have hR : smN r := by unfold smN; omega
  have HR := Lib.hid hR
  clear hs5 ht5 B4 HB4 HS4 hR
  go_wp2_with fail
  refine (one_any w0 p m5 _ x0 8 w5 HC.out o0 HS5.out (by omega) (by omega) (by omega)).mono ?_
  rintro e w6 ⟨b, m6, rfl, m60, m61, hs6, ht6⟩
  have hz6 := ht6.size
  have BQ := Lib.hid (BQ.out.touch ht6 (.inr (by omega)))
  have B6 := Lib.hid (B5.out.touch ht6 (.inl (by omega)))
  have HRY := Lib.hid (HRY.out.touch ht6 (.inr (by omega)))
  have HB6 := Lib.hid (ht6.below HB5.out (by omega) (by omega))
  have HS6 := Lib.hid hs6
  have hqw : q < w6.heap.size := by omega
  have hw6 : w.heap.size < w6.heap.size := by omega
  clear hs6 ht6 B5 HB5 HS5
  cases b
  · skip
    have u0 := BQ.out.at' 0 _ rfl
    have u1 := BQ.out.at' 1 _ rfl
    have u2 := BQ.out.at' 2 _ rfl
    have u3 := BQ.out.at' 3 _ rfl
    have s0 := B6.out.at' 0 _ rfl
    have s1 := B6.out.at' 1 _ rfl
    have s2 := B6.out.at' 2 _ rfl
    have s3 := B6.out.at' 3 _ rfl
    have f0 := B6.out.fr 0
    have f1 := B6.out.fr 1
    have f2 := B6.out.fr 2
    have f3 := B6.out.fr 3
    have l0 := B6.out.lt
    go_wp2
    refine bodyPost_ret (v := .tuple #[.agg #[.int .i64 y.note, .slice a4 y.levs.length c4, .int .i64 y.slack, .int .i64 y.weight], .int .i64 r]) (by simp [results, Tryd.results21, go_sem, s0, s1, s2, s3, f0, f1, f2, f3, l0]) rfl ⟨_, y, r, rfl, ⟨_, rfl, ?_⟩, HYS.out, HR.out, ?_⟩
    · refine (HRY.out.touch (B' := w.heap.size) (E' := w.heap.size + 1) ?_ (Or.inr (by omega))).wide (by omega) (by first | (simp; done) | (simp; omega))
      have htc := Touch.refl w.heap.size (w.heap.size + 1) w6
      (repeat (first | with_reducible exact Touch.refl _ _ _ | with_reducible exact htc | (with_reducible refine Touch.setCell ?_ ?_ _; rotate_left; · (simp only; omega)) | (with_reducible refine Touch.setNew ?_ ?_ _; rotate_left; · (first | (simp only; omega) | (simp; done) | (simp; omega))) | with_reducible refine Touch.alloc ?_ _ | with_reducible refine Touch.drewN ?_ _ | with_reducible refine Touch.drew ?_))
    · have hbw := HB6.out
      (repeat (first | with_reducible exact Below.refl _ _ | with_reducible exact hbw | (with_reducible refine Below.setCell ?_ ?_ _; rotate_left; · first | exact Nat.le_refl _ | omega | (simp; done) | (simp; omega)) | (with_reducible refine Below.alloc ?_ ?_ _; rotate_left; · first | exact Nat.le_refl _ | omega | (simp; done) | (simp; omega)) | with_reducible refine below_drewN ?_ _ | with_reducible refine Below.drew ?_))
  · have j2 := BQ.out.at' 2 _ rfl
    go_wp2_with fail
    refine (among_lit w0 p m6 _ x0 [-1, 0, 100000, 100001, y.slack] 5 w6.heap.size w6 HC.out o0 HS6.out (by omega) rfl rfl (by simp) (by simp)).mono ?_
    rintro e w7 ⟨t, m7, rfl, ht, m70, m71, hs7, ht7⟩
    have HT := Lib.hid (show smN t by
      have hy := HYS.out.slack
      simp only [List.mem_cons, List.not_mem_nil, or_false] at ht
      rcases ht with rfl | rfl | rfl | rfl | rfl
      all_goals first | exact hy | (unfold smN; omega))
    have hz7 := ht7.size
    have BQ := Lib.hid (BQ.out.touch ht7 (.inr (by omega)))
    have B7 := Lib.hid (B6.out.touch ht7 (.inl (by omega)))
    have HRY := Lib.hid (HRY.out.touch ht7 (.inr (by omega)))
    have HB7 := Lib.hid (ht7.below HB6.out (by omega) (by omega))
    clear ht hs7 ht7 B6 HB6 HS6 j2
    have u0 := BQ.out.at' 0 _ rfl
    have u1 := BQ.out.at' 1 _ rfl
    have u2 := BQ.out.at' 2 _ rfl
    have u3 := BQ.out.at' 3 _ rfl
    have s0 := B7.out.at' 0 _ rfl
    have s1 := B7.out.at' 1 _ rfl
    have s2 := B7.out.at' 2 _ rfl
    have s3 := B7.out.at' 3 _ rfl
    have f0 := B7.out.fr 0
    have f1 := B7.out.fr 1
    have f2 := B7.out.fr 2
    have f3 := B7.out.fr 3
    have l0 := B7.out.lt
    go_wp2
    refine bodyPost_ret (v := .tuple #[.agg #[.int .i64 y.note, .slice a4 y.levs.length c4, .int .i64 y.slack, .int .i64 y.weight], .int .i64 t]) (by simp [results, Tryd.results21, go_sem, s0, s1, s2, s3, f0, f1, f2, f3, l0]) rfl ⟨_, y, t, rfl, ⟨_, rfl, ?_⟩, HYS.out, HT.out, ?_⟩
    · refine (HRY.out.touch (B' := w.heap.size) (E' := w.heap.size + 1) ?_ (Or.inr (by omega))).wide (by omega) (by first | (simp; done) | (simp; omega))
      have htc := Touch.refl w.heap.size (w.heap.size + 1) w7
      (repeat (first | with_reducible exact Touch.refl _ _ _ | with_reducible exact htc | (with_reducible refine Touch.setCell ?_ ?_ _; rotate_left; · (simp only; omega)) | (with_reducible refine Touch.setNew ?_ ?_ _; rotate_left; · (first | (simp only; omega) | (simp; done) | (simp; omega))) | with_reducible refine Touch.alloc ?_ _ | with_reducible refine Touch.drewN ?_ _ | with_reducible refine Touch.drew ?_))
    · have hbw := HB7.out
      (repeat (first | with_reducible exact Below.refl _ _ | with_reducible exact hbw | (with_reducible refine Below.setCell ?_ ?_ _; rotate_left; · first | exact Nat.le_refl _ | omega | (simp; done) | (simp; omega)) | (with_reducible refine Below.alloc ?_ ?_ _; rotate_left; · first | exact Nat.le_refl _ | omega | (simp; done) | (simp; omega)) | with_reducible refine below_drewN ?_ _ | with_reducible refine Below.drew ?_))

end Go.Proofs.YtijhlllajddlpaaDoor
