/- Taking out, fitting, overlapping castings: both packages. -/
import Derived.Test.YteaijhmgfddjiaaBayW
import Derived.Test.YteaijhmgfddjiaaCool
import Derived.Test.YteaijhmgfddjiaaBayS
import Derived.Test.YteaijhmgfddjiaaKInts
set_option linter.unusedSimpArgs false
set_option linter.unnecessarySimpa false
set_option linter.unusedVariables false
set_option maxRecDepth 100000
namespace Go.Proofs.Yteaijhmgfddjiaa
open Go.RowKit

theorem strip_bd {x : CasD} (h : casOk x) : 0 ≤ stripV x ∧ stripV x ≤ 2000000 := by
  obtain ⟨_, _, _, h1, h2⟩ := h
  have := toN_bd (k := x.thick.toNat) (by omega) 150
  unfold stripV
  omega

set_option maxHeartbeats 1000000 in
theorem stripTime_any (o : Int) (x : CasD) (w : World) (h : casOk x) (ho : o = stripV x) :
    Calls Try.prog 45 #[.agg #[.string x.bell, .int .i64 x.radius, .int .i64 x.depth, .int .i64 x.thick, .int .i64 x.since]] w fun e w' => e = .returned (.int .i64 o) ∧ Below w.heap.size w w' := by
  obtain ⟨_, _, _, h1, h2⟩ := h
  obtain ⟨k, hk⟩ : ∃ k : Nat, k = x.thick.toNat := ⟨_, rfl⟩
  have t1 := toN_bd (k := k) (by omega) 150
  obtain ⟨q, hq⟩ : ∃ q, q = toN k 150 := ⟨_, rfl⟩
  have HO := Lib.hid (show o = x.since + (q : Int) by rw [ho, hq, hk]; rfl)
  rw [← hq] at t1
  have HQ := Lib.hid (show (q : Int) = toN k 150 by rw [hq])
  have hx : x.thick = (k : Int) := by omega
  have k1 : k ≤ 30000 := by omega
  have e1 : IntKind.i64.wrap (x.since + (q : Int)) = o := by rw [HO.out]; exact i64_q (by omega) (by omega)
  have HX := Lib.hid hx; clear hx hq ho hk
  go_enter Try.func45, Try.ntmps45
  go_wp2_with fail
  simp only [HX.out]
  obtain ⟨wA, hA⟩ : ∃ wA, wA = w.alloc (Obj.cells #[.string x.bell, .int .i64 x.radius, .int .i64 x.depth, .int .i64 (k : Int), .int .i64 x.since] 41) := ⟨_, rfl⟩
  rw [← hA]
  have hB : Box wA w.heap.size [.string x.bell, .int .i64 x.radius, .int .i64 x.depth, .int .i64 (k : Int), .int .i64 x.since] := by rw [hA]; exact Box.alloc w _ _ _ rfl
  have hbA : Below w.heap.size w wA := by rw [hA]; (repeat (first | with_reducible exact Below.refl _ _ | with_reducible exact hbw | (with_reducible refine Below.setCell ?_ ?_ _; rotate_left; · first | exact Nat.le_refl _ | omega | (simp; done) | (simp; omega)) | (with_reducible refine Below.alloc ?_ ?_ _; rotate_left; · first | exact Nat.le_refl _ | omega | (simp; done) | (simp; omega)) | with_reducible refine below_drewN ?_ _ | with_reducible refine Below.drew ?_))
  clear hA
  have c3 := hB.at' 3 _ rfl
  have c4 := hB.at' 4 _ rfl
  have l0 := hB.lt
  go_quiet ((go_at_call 67; exact quiet_q (timeTo_any q k 150 _ HQ.out k1)))
  go_wp2
  go_ret
  exact ⟨rfl, hbA.trans (by (repeat (first | with_reducible exact Below.refl _ _ | with_reducible exact hbw | (with_reducible refine Below.setCell ?_ ?_ _; rotate_left; · first | exact Nat.le_refl _ | omega | (simp; done) | (simp; omega)) | (with_reducible refine Below.alloc ?_ ?_ _; rotate_left; · first | exact Nat.le_refl _ | omega | (simp; done) | (simp; omega)) | with_reducible refine below_drewN ?_ _ | with_reducible refine Below.drew ?_)))⟩

set_option maxHeartbeats 1000000 in
theorem l16Strip_any (o : Int) (x : CasD) (g off : Nat) (w : World) (h : casOk x) (ho : o = stripV x) (hx : CasDIn w g off x) :
    Calls Try.prog 87 #[.pointer (some ⟨g, off, none⟩)] w fun e w' => e = .returned (.int .i64 o) ∧ Q w w' := by
  obtain ⟨_, _, _, h1, h2⟩ := h
  obtain ⟨l0, _, _, _, c3, c4⟩ := hx
  obtain ⟨k, hk⟩ : ∃ k : Nat, k = x.thick.toNat := ⟨_, rfl⟩
  have t1 := toN_bd (k := k) (by omega) 150
  obtain ⟨q, hq⟩ : ∃ q, q = toN k 150 := ⟨_, rfl⟩
  have HO := Lib.hid (show o = x.since + (q : Int) by rw [ho, hq, hk]; rfl)
  rw [← hq] at t1
  have HQ := Lib.hid (show (q : Int) = toN k 150 by rw [hq])
  have hx : x.thick = (k : Int) := by omega
  have k1 : k ≤ 30000 := by omega
  have e1 : IntKind.i64.wrap (x.since + (q : Int)) = o := by rw [HO.out]; exact i64_q (by omega) (by omega)
  rw [hx] at c3
  clear hx hq ho hk
  go_enter Try.func87, Try.ntmps87
  go_wp2_with fail
  go_quiet ((go_at_call 95; exact quiet_q (l16To_any q k 150 _ HQ.out k1)))
  go_wp2
  go_ret
  exact ⟨rfl, _, rfl⟩

theorem fitsBay_any (r : Bool) (b : BayD) (c : CasD) (w : World) (h : r = decide (fitV b c)) :
    Calls Try.prog 80 #[.agg #[.string b.id, .int .i64 b.radius, .int .i64 b.depth], .agg #[.string c.bell, .int .i64 c.radius, .int .i64 c.depth, .int .i64 c.thick, .int .i64 c.since]] w fun e w' => e = .returned (.bool r) ∧ Below w.heap.size w w' := by
  by_cases g1 : c.radius ≤ b.radius
  · by_cases g2 : c.depth ≤ b.depth
    · have HR := Lib.hid (show r = true by rw [h]; exact decide_eq_true ⟨g1, g2⟩)
      have d1 : decide (c.radius ≤ b.radius) = true := decide_eq_true g1
      have d2 : decide (c.depth ≤ b.depth) = true := decide_eq_true g2
      clear h g1 g2
      go_enter Try.func80, Try.ntmps80
      go_wp2
      go_ret
      refine ⟨ret_bool HR.out.symm, ?_⟩
      (repeat (first | with_reducible exact Below.refl _ _ | with_reducible exact hbw | (with_reducible refine Below.setCell ?_ ?_ _; rotate_left; · first | exact Nat.le_refl _ | omega | (simp; done) | (simp; omega)) | (with_reducible refine Below.alloc ?_ ?_ _; rotate_left; · first | exact Nat.le_refl _ | omega | (simp; done) | (simp; omega)) | with_reducible refine below_drewN ?_ _ | with_reducible refine Below.drew ?_))
    · have HR := Lib.hid (show r = false by rw [h]; exact decide_eq_false fun h => g2 h.2)
      have d1 : decide (c.radius ≤ b.radius) = true := decide_eq_true g1
      have d2 : decide (c.depth ≤ b.depth) = false := decide_eq_false g2
      clear h g1 g2
      go_enter Try.func80, Try.ntmps80
      go_wp2
      go_ret
      refine ⟨ret_bool HR.out.symm, ?_⟩
      (repeat (first | with_reducible exact Below.refl _ _ | with_reducible exact hbw | (with_reducible refine Below.setCell ?_ ?_ _; rotate_left; · first | exact Nat.le_refl _ | omega | (simp; done) | (simp; omega)) | (with_reducible refine Below.alloc ?_ ?_ _; rotate_left; · first | exact Nat.le_refl _ | omega | (simp; done) | (simp; omega)) | with_reducible refine below_drewN ?_ _ | with_reducible refine Below.drew ?_))
  · have HR := Lib.hid (show r = false by rw [h]; exact decide_eq_false fun h => g1 h.1)
    have d1 : decide (c.radius ≤ b.radius) = false := decide_eq_false g1
    clear h g1
    go_enter Try.func80, Try.ntmps80
    go_wp2
    go_ret
    refine ⟨ret_bool HR.out.symm, ?_⟩
    (repeat (first | with_reducible exact Below.refl _ _ | with_reducible exact hbw | (with_reducible refine Below.setCell ?_ ?_ _; rotate_left; · first | exact Nat.le_refl _ | omega | (simp; done) | (simp; omega)) | (with_reducible refine Below.alloc ?_ ?_ _; rotate_left; · first | exact Nat.le_refl _ | omega | (simp; done) | (simp; omega)) | with_reducible refine below_drewN ?_ _ | with_reducible refine Below.drew ?_))

theorem l16Fits_any (r : Bool) (b : BayD) (c : CasD) (g1 o1 g2 o2 : Nat) (w : World) (h : r = decide (fitV b c)) (hb : BayDIn w g1 o1 b) (hc : CasDIn w g2 o2 c) :
    Calls Try.prog 86 #[.pointer (some ⟨g1, o1, none⟩), .pointer (some ⟨g2, o2, none⟩)] w fun e w' => e = .returned (.bool r) ∧ Q w w' := by
  obtain ⟨l0, _, b1, b2⟩ := hb
  obtain ⟨k0, _, c1, c2, _, _⟩ := hc
  by_cases g1 : c.radius ≤ b.radius
  · by_cases g2 : c.depth ≤ b.depth
    · have HR := Lib.hid (show r = true by rw [h]; exact decide_eq_true ⟨g1, g2⟩)
      have d1 : decide (c.radius ≤ b.radius) = true := decide_eq_true g1
      have d2 : decide (c.depth ≤ b.depth) = true := decide_eq_true g2
      clear h g1 g2
      go_enter Try.func86, Try.ntmps86
      go_wp2
      go_quiet (fail)
      go_wp2
      go_ret
      exact ⟨ret_bool HR.out.symm, _, rfl⟩
    · have HR := Lib.hid (show r = false by rw [h]; exact decide_eq_false fun h => g2 h.2)
      have d1 : decide (c.radius ≤ b.radius) = true := decide_eq_true g1
      have d2 : decide (c.depth ≤ b.depth) = false := decide_eq_false g2
      clear h g1 g2
      go_enter Try.func86, Try.ntmps86
      go_wp2
      go_quiet (fail)
      go_wp2
      go_ret
      exact ⟨ret_bool HR.out.symm, _, rfl⟩
  · have HR := Lib.hid (show r = false by rw [h]; exact decide_eq_false fun h => g1 h.1)
    have d1 : decide (c.radius ≤ b.radius) = false := decide_eq_false g1
    clear h g1
    go_enter Try.func86, Try.ntmps86
    go_wp2
    go_quiet (fail)
    go_wp2
    go_ret
    exact ⟨ret_bool HR.out.symm, _, rfl⟩

set_option maxHeartbeats 2000000 in
theorem overlap_any (r : Bool) (x y : CasD) (w : World) (hx : casOk x) (hy : casOk y) (h : r = decide (overV x y)) :
    Calls Try.prog 81 #[.agg #[.string x.bell, .int .i64 x.radius, .int .i64 x.depth, .int .i64 x.thick, .int .i64 x.since], .agg #[.string y.bell, .int .i64 y.radius, .int .i64 y.depth, .int .i64 y.thick, .int .i64 y.since]] w fun e w' => e = .returned (.bool r) ∧ Below w.heap.size w w' := by
  have HX := Lib.hid hx; have HY := Lib.hid hy
  obtain ⟨p, hp⟩ : ∃ p, p = stripV y := ⟨_, rfl⟩
  obtain ⟨q, hq⟩ : ∃ q, q = stripV x := ⟨_, rfl⟩
  have HP := Lib.hid hp; have HQ := Lib.hid hq
  have hr : r = decide (x.since < p ∧ y.since < q) := by rw [h, hp, hq]; rfl
  clear hx hy hp hq h
  by_cases g1 : x.since < p
  · have d1 : decide (x.since < p) = true := decide_eq_true g1
    by_cases g2 : y.since < q
    · have HR := Lib.hid (show r = true by rw [hr]; exact decide_eq_true ⟨g1, g2⟩)
      have d2 : decide (y.since < q) = true := decide_eq_true g2
      clear hr g1 g2
      go_enter Try.func81, Try.ntmps81
      go_wp2_with fail
      obtain ⟨wA, hA⟩ : ∃ wA, wA = (w.alloc (Obj.cells #[.string x.bell, .int .i64 x.radius, .int .i64 x.depth, .int .i64 x.thick, .int .i64 x.since] 41)).alloc (Obj.cells #[.string y.bell, .int .i64 y.radius, .int .i64 y.depth, .int .i64 y.thick, .int .i64 y.since] 41) := ⟨_, rfl⟩
      rw [← hA]
      have hB1 : Box wA w.heap.size [.string x.bell, .int .i64 x.radius, .int .i64 x.depth, .int .i64 x.thick, .int .i64 x.since] := by
        rw [hA]
        exact (Box.alloc w _ _ _ rfl).mono (by (repeat (first | with_reducible exact Below.refl _ _ | with_reducible exact hbw | (with_reducible refine Below.setCell ?_ ?_ _; rotate_left; · first | exact Nat.le_refl _ | omega | (simp; done) | (simp; omega)) | (with_reducible refine Below.alloc ?_ ?_ _; rotate_left; · first | exact Nat.le_refl _ | omega | (simp; done) | (simp; omega)) | with_reducible refine below_drewN ?_ _ | with_reducible refine Below.drew ?_)))
      have hB2 : Box wA (w.heap.size + 1) [.string y.bell, .int .i64 y.radius, .int .i64 y.depth, .int .i64 y.thick, .int .i64 y.since] := by
        rw [hA]
        exact Box.alloc _ _ _ _ (by simp)
      have hbA : Below w.heap.size w wA := by rw [hA]; (repeat (first | with_reducible exact Below.refl _ _ | with_reducible exact hbw | (with_reducible refine Below.setCell ?_ ?_ _; rotate_left; · first | exact Nat.le_refl _ | omega | (simp; done) | (simp; omega)) | (with_reducible refine Below.alloc ?_ ?_ _; rotate_left; · first | exact Nat.le_refl _ | omega | (simp; done) | (simp; omega)) | with_reducible refine below_drewN ?_ _ | with_reducible refine Below.drew ?_))
      clear hA
      have a0 := hB1.at' 0 _ rfl
      have a1 := hB1.at' 1 _ rfl
      have a2 := hB1.at' 2 _ rfl
      have a3 := hB1.at' 3 _ rfl
      have a4 := hB1.at' 4 _ rfl
      have b0 := hB2.at' 0 _ rfl
      have b1 := hB2.at' 1 _ rfl
      have b2 := hB2.at' 2 _ rfl
      have b3 := hB2.at' 3 _ rfl
      have b4 := hB2.at' 4 _ rfl
      have l1 := hB1.lt
      have l2 := hB2.lt
      clear hB1 hB2
      refine wp_region_ord [(0, true), (1, true), (2, true), (3, false), (4, true), (5, true), (6, true), (7, true), (8, true), (9, false), (10, true), (11, true), (12, true)] (none) (by kernel_rfl) (by kernel_rfl) ?_
      (repeat (with_reducible refine wpOrd_soft (fun K hK => ?_); simp only [List.getElem?_toArray, List.getElem?_cons_zero, List.getElem?_cons_succ]; first | (go_simp; refine hK _ ?_) | (simp only [undef]; go_simp; refine hK _ ?_); clear hK K))
      (with_reducible refine wpOrd_hard ?_; simp only [List.getElem?_toArray, List.getElem?_cons_zero, List.getElem?_cons_succ])
      go_wp2_with fail
      refine (stripTime_any p y _ HY.out HP.out).mono ?_
      rintro e w1 ⟨rfl, hb1⟩
      have hb1 : Below wA.heap.size wA w1 := undrew hb1
      go_wp2_with fail
      refine ⟨grown_of_below hb1, ?_⟩
      have f0 := cellB hb1 a0
      have f1 := cellB hb1 a1
      have f2 := cellB hb1 a2
      have f3 := cellB hb1 a3
      have f4 := cellB hb1 a4
      have h4 := cellB hb1 b4
      have m1 : w.heap.size < w1.heap.size := Nat.lt_of_lt_of_le l1 hb1.size
      have m2 : w.heap.size + 1 < w1.heap.size := Nat.lt_of_lt_of_le l2 hb1.size
      have hbC : Below w.heap.size w w1 := hbA.trans (hb1.mono hbA.size)
      (repeat (with_reducible refine wpOrd_soft (fun K hK => ?_); simp only [List.getElem?_toArray, List.getElem?_cons_zero, List.getElem?_cons_succ]; first | (go_simp; refine hK _ ?_) | (simp only [undef]; go_simp; refine hK _ ?_); clear hK K))
      (with_reducible refine wpOrd_hard ?_; simp only [List.getElem?_toArray, List.getElem?_cons_zero, List.getElem?_cons_succ])
      go_wp2_with fail
      refine (stripTime_any q x _ HX.out HQ.out).mono ?_
      rintro e w2 ⟨rfl, hb2⟩
      have hb2 : Below wA.heap.size wA w2 := hb1.trans (Below.mono hb2 hb1.size)
      go_wp2_with fail
      refine ⟨grown_of_below hb2, ?_⟩
      (repeat (with_reducible refine wpOrd_soft (fun K hK => ?_); simp only [List.getElem?_toArray, List.getElem?_cons_zero, List.getElem?_cons_succ]; first | (go_simp; refine hK _ ?_) | (simp only [undef]; go_simp; refine hK _ ?_); clear hK K))
      (with_reducible refine wpOrd_nil ?_); refine NoPanic.normal ?_
      go_wp2
      go_ret
      exact ⟨ret_bool HR.out.symm, hbA.trans (hb2.mono hbA.size)⟩
    · have HR := Lib.hid (show r = false by rw [hr]; exact decide_eq_false fun h => g2 h.2)
      have d2 : decide (y.since < q) = false := decide_eq_false g2
      clear hr g1 g2
      go_enter Try.func81, Try.ntmps81
      go_wp2_with fail
      obtain ⟨wA, hA⟩ : ∃ wA, wA = (w.alloc (Obj.cells #[.string x.bell, .int .i64 x.radius, .int .i64 x.depth, .int .i64 x.thick, .int .i64 x.since] 41)).alloc (Obj.cells #[.string y.bell, .int .i64 y.radius, .int .i64 y.depth, .int .i64 y.thick, .int .i64 y.since] 41) := ⟨_, rfl⟩
      rw [← hA]
      have hB1 : Box wA w.heap.size [.string x.bell, .int .i64 x.radius, .int .i64 x.depth, .int .i64 x.thick, .int .i64 x.since] := by
        rw [hA]
        exact (Box.alloc w _ _ _ rfl).mono (by (repeat (first | with_reducible exact Below.refl _ _ | with_reducible exact hbw | (with_reducible refine Below.setCell ?_ ?_ _; rotate_left; · first | exact Nat.le_refl _ | omega | (simp; done) | (simp; omega)) | (with_reducible refine Below.alloc ?_ ?_ _; rotate_left; · first | exact Nat.le_refl _ | omega | (simp; done) | (simp; omega)) | with_reducible refine below_drewN ?_ _ | with_reducible refine Below.drew ?_)))
      have hB2 : Box wA (w.heap.size + 1) [.string y.bell, .int .i64 y.radius, .int .i64 y.depth, .int .i64 y.thick, .int .i64 y.since] := by
        rw [hA]
        exact Box.alloc _ _ _ _ (by simp)
      have hbA : Below w.heap.size w wA := by rw [hA]; (repeat (first | with_reducible exact Below.refl _ _ | with_reducible exact hbw | (with_reducible refine Below.setCell ?_ ?_ _; rotate_left; · first | exact Nat.le_refl _ | omega | (simp; done) | (simp; omega)) | (with_reducible refine Below.alloc ?_ ?_ _; rotate_left; · first | exact Nat.le_refl _ | omega | (simp; done) | (simp; omega)) | with_reducible refine below_drewN ?_ _ | with_reducible refine Below.drew ?_))
      clear hA
      have a0 := hB1.at' 0 _ rfl
      have a1 := hB1.at' 1 _ rfl
      have a2 := hB1.at' 2 _ rfl
      have a3 := hB1.at' 3 _ rfl
      have a4 := hB1.at' 4 _ rfl
      have b0 := hB2.at' 0 _ rfl
      have b1 := hB2.at' 1 _ rfl
      have b2 := hB2.at' 2 _ rfl
      have b3 := hB2.at' 3 _ rfl
      have b4 := hB2.at' 4 _ rfl
      have l1 := hB1.lt
      have l2 := hB2.lt
      clear hB1 hB2
      refine wp_region_ord [(0, true), (1, true), (2, true), (3, false), (4, true), (5, true), (6, true), (7, true), (8, true), (9, false), (10, true), (11, true), (12, true)] (none) (by kernel_rfl) (by kernel_rfl) ?_
      (repeat (with_reducible refine wpOrd_soft (fun K hK => ?_); simp only [List.getElem?_toArray, List.getElem?_cons_zero, List.getElem?_cons_succ]; first | (go_simp; refine hK _ ?_) | (simp only [undef]; go_simp; refine hK _ ?_); clear hK K))
      (with_reducible refine wpOrd_hard ?_; simp only [List.getElem?_toArray, List.getElem?_cons_zero, List.getElem?_cons_succ])
      go_wp2_with fail
      refine (stripTime_any p y _ HY.out HP.out).mono ?_
      rintro e w1 ⟨rfl, hb1⟩
      have hb1 : Below wA.heap.size wA w1 := undrew hb1
      go_wp2_with fail
      refine ⟨grown_of_below hb1, ?_⟩
      have f0 := cellB hb1 a0
      have f1 := cellB hb1 a1
      have f2 := cellB hb1 a2
      have f3 := cellB hb1 a3
      have f4 := cellB hb1 a4
      have h4 := cellB hb1 b4
      have m1 : w.heap.size < w1.heap.size := Nat.lt_of_lt_of_le l1 hb1.size
      have m2 : w.heap.size + 1 < w1.heap.size := Nat.lt_of_lt_of_le l2 hb1.size
      have hbC : Below w.heap.size w w1 := hbA.trans (hb1.mono hbA.size)
      (repeat (with_reducible refine wpOrd_soft (fun K hK => ?_); simp only [List.getElem?_toArray, List.getElem?_cons_zero, List.getElem?_cons_succ]; first | (go_simp; refine hK _ ?_) | (simp only [undef]; go_simp; refine hK _ ?_); clear hK K))
      (with_reducible refine wpOrd_hard ?_; simp only [List.getElem?_toArray, List.getElem?_cons_zero, List.getElem?_cons_succ])
      go_wp2_with fail
      refine (stripTime_any q x _ HX.out HQ.out).mono ?_
      rintro e w2 ⟨rfl, hb2⟩
      have hb2 : Below wA.heap.size wA w2 := hb1.trans (Below.mono hb2 hb1.size)
      go_wp2_with fail
      refine ⟨grown_of_below hb2, ?_⟩
      (repeat (with_reducible refine wpOrd_soft (fun K hK => ?_); simp only [List.getElem?_toArray, List.getElem?_cons_zero, List.getElem?_cons_succ]; first | (go_simp; refine hK _ ?_) | (simp only [undef]; go_simp; refine hK _ ?_); clear hK K))
      (with_reducible refine wpOrd_nil ?_); refine NoPanic.normal ?_
      go_wp2
      go_ret
      exact ⟨ret_bool HR.out.symm, hbA.trans (hb2.mono hbA.size)⟩
  · have HR := Lib.hid (show r = false by rw [hr]; exact decide_eq_false fun h => g1 h.1)
    have d1 : decide (x.since < p) = false := decide_eq_false g1
    clear hr g1
    go_enter Try.func81, Try.ntmps81
    go_wp2_with fail
    obtain ⟨wA, hA⟩ : ∃ wA, wA = (w.alloc (Obj.cells #[.string x.bell, .int .i64 x.radius, .int .i64 x.depth, .int .i64 x.thick, .int .i64 x.since] 41)).alloc (Obj.cells #[.string y.bell, .int .i64 y.radius, .int .i64 y.depth, .int .i64 y.thick, .int .i64 y.since] 41) := ⟨_, rfl⟩
    rw [← hA]
    have hB1 : Box wA w.heap.size [.string x.bell, .int .i64 x.radius, .int .i64 x.depth, .int .i64 x.thick, .int .i64 x.since] := by
      rw [hA]
      exact (Box.alloc w _ _ _ rfl).mono (by (repeat (first | with_reducible exact Below.refl _ _ | with_reducible exact hbw | (with_reducible refine Below.setCell ?_ ?_ _; rotate_left; · first | exact Nat.le_refl _ | omega | (simp; done) | (simp; omega)) | (with_reducible refine Below.alloc ?_ ?_ _; rotate_left; · first | exact Nat.le_refl _ | omega | (simp; done) | (simp; omega)) | with_reducible refine below_drewN ?_ _ | with_reducible refine Below.drew ?_)))
    have hB2 : Box wA (w.heap.size + 1) [.string y.bell, .int .i64 y.radius, .int .i64 y.depth, .int .i64 y.thick, .int .i64 y.since] := by
      rw [hA]
      exact Box.alloc _ _ _ _ (by simp)
    have hbA : Below w.heap.size w wA := by rw [hA]; (repeat (first | with_reducible exact Below.refl _ _ | with_reducible exact hbw | (with_reducible refine Below.setCell ?_ ?_ _; rotate_left; · first | exact Nat.le_refl _ | omega | (simp; done) | (simp; omega)) | (with_reducible refine Below.alloc ?_ ?_ _; rotate_left; · first | exact Nat.le_refl _ | omega | (simp; done) | (simp; omega)) | with_reducible refine below_drewN ?_ _ | with_reducible refine Below.drew ?_))
    clear hA
    have a0 := hB1.at' 0 _ rfl
    have a1 := hB1.at' 1 _ rfl
    have a2 := hB1.at' 2 _ rfl
    have a3 := hB1.at' 3 _ rfl
    have a4 := hB1.at' 4 _ rfl
    have b0 := hB2.at' 0 _ rfl
    have b1 := hB2.at' 1 _ rfl
    have b2 := hB2.at' 2 _ rfl
    have b3 := hB2.at' 3 _ rfl
    have b4 := hB2.at' 4 _ rfl
    have l1 := hB1.lt
    have l2 := hB2.lt
    clear hB1 hB2
    refine wp_region_ord [(0, true), (1, true), (2, true), (3, false), (4, true), (5, true), (6, true), (7, true), (8, true), (9, false), (10, true), (11, true), (12, true)] (none) (by kernel_rfl) (by kernel_rfl) ?_
    (repeat (with_reducible refine wpOrd_soft (fun K hK => ?_); simp only [List.getElem?_toArray, List.getElem?_cons_zero, List.getElem?_cons_succ]; first | (go_simp; refine hK _ ?_) | (simp only [undef]; go_simp; refine hK _ ?_); clear hK K))
    (with_reducible refine wpOrd_hard ?_; simp only [List.getElem?_toArray, List.getElem?_cons_zero, List.getElem?_cons_succ])
    go_wp2_with fail
    refine (stripTime_any p y _ HY.out HP.out).mono ?_
    rintro e w1 ⟨rfl, hb1⟩
    have hb1 : Below wA.heap.size wA w1 := undrew hb1
    go_wp2_with fail
    refine ⟨grown_of_below hb1, ?_⟩
    have f0 := cellB hb1 a0
    have f1 := cellB hb1 a1
    have f2 := cellB hb1 a2
    have f3 := cellB hb1 a3
    have f4 := cellB hb1 a4
    have h4 := cellB hb1 b4
    have m1 : w.heap.size < w1.heap.size := Nat.lt_of_lt_of_le l1 hb1.size
    have m2 : w.heap.size + 1 < w1.heap.size := Nat.lt_of_lt_of_le l2 hb1.size
    have hbC : Below w.heap.size w w1 := hbA.trans (hb1.mono hbA.size)
    (repeat (with_reducible refine wpOrd_soft (fun K hK => ?_); simp only [List.getElem?_toArray, List.getElem?_cons_zero, List.getElem?_cons_succ]; first | (go_simp; refine hK _ ?_) | (simp only [undef]; go_simp; refine hK _ ?_); clear hK K))
    (with_reducible refine wpOrd_skip ?_ (fun K hK => ?_); exact grown_of_below hb1; simp only [List.getElem?_toArray, List.getElem?_cons_zero, List.getElem?_cons_succ]; first | (go_simp; refine hK _ ?_) | (simp only [undef]; go_simp; refine hK _ ?_); clear hK K)
    (repeat (with_reducible refine wpOrd_soft (fun K hK => ?_); simp only [List.getElem?_toArray, List.getElem?_cons_zero, List.getElem?_cons_succ]; first | (go_simp; refine hK _ ?_) | (simp only [undef]; go_simp; refine hK _ ?_); clear hK K))
    (with_reducible refine wpOrd_nil ?_); refine NoPanic.normal ?_
    go_wp2
    go_ret
    exact ⟨ret_bool HR.out.symm, hbC⟩

/-- A casting with its place in a row. -/
theorem getD_cas {l : List CasD} {k : Nat} (h : k < l.length) : l.getD k zCas = l[k] := by rw [List.getD_eq_getElem?_getD, List.getElem?_eq_getElem h]; rfl
theorem getD_bay {l : List BayD} {k : Nat} (h : k < l.length) : l.getD k zBay = l[k] := by rw [List.getD_eq_getElem?_getD, List.getElem?_eq_getElem h]; rfl
theorem getD_int {l : List Int} {k : Nat} (h : k < l.length) : l.getD k 0 = l[k] := by rw [List.getD_eq_getElem?_getD, List.getElem?_eq_getElem h]; rfl
/-- The castings that are before at one bay, up to i, do not overlap. -/
def clearTo (list : List CasD) (pl : List Int) (k bay i : Nat) : Prop := ∀ j, j < i → pl.getD j 0 = (bay : Int) → ¬ overV (list.getD j zCas) (list.getD k zCas)
theorem clearTo_step {list : List CasD} {pl : List Int} {k bay i : Nat} (h : clearTo list pl k bay i) (hi : pl.getD i 0 = (bay : Int) → ¬ overV (list.getD i zCas) (list.getD k zCas)) : clearTo list pl k bay (i + 1) := fun j hj => by
  by_cases e : j = i
  · subst e; exact hi
  · exact h j (by omega)

set_option maxHeartbeats 2000000 in
theorem canBe_any (r : Bool) (vb vl vp : Value) (bays : List BayD) (list : List CasD) (pl : List Int) (k bay : Nat) (w : World) (hb : RdBayDs w vb bays) (hl : RdCasDs w vl list) (hp : Ints w vp pl) (ok : ∀ x ∈ list, casOk x) (hk : k = pl.length) (hk2 : k < list.length) (hbay : bay < bays.length) (h : r = true ↔ canP bays list pl k bay) :
    Calls Try.prog 61 #[vb, vl, vp, .int .i64 k, .int .i64 bay] w fun e w' => e = .returned (.bool r) ∧ Below w.heap.size w w' := by
  obtain ⟨a1, c1, rfl, m1⟩ := hb.form'
  obtain ⟨a2, c2, rfl, m2⟩ := hl.form'
  obtain ⟨a3, c3, rfl, q1, q2, _⟩ := id hp
  have m3 : pl.length ≤ maxLen := by omega
  unfold maxLen at m1 m2 m3
  clear q1 q2
  obtain ⟨b1, o1, rfl, l1, u0, u1, u2⟩ := hb.at hbay
  obtain ⟨b2, o2, rfl, l2, v0, v1, v2, v3, v4⟩ := hl.at hk2
  have HOK := Lib.hid ok; clear ok
  have HK := Lib.hid hk; clear hk
  by_cases g : fitV bays[bay] list[k]
  · have HG := Lib.hid g
    have H := Lib.hid (show r = true ↔ clearTo list pl k bay pl.length from h.trans ⟨fun h => h.2, fun h' => ⟨by rw [getD_bay hbay, getD_cas hk2]; exact g, h'⟩⟩)
    clear h g
    go_enter Try.func61, Try.ntmps61
    go_wp2_with fail
    refine wp_region_ord [(0, true), (1, true), (2, true), (3, true), (4, true), (5, true), (6, true), (7, true), (8, false), (9, true)] (none) (by kernel_rfl) (by kernel_rfl) ?_
    (repeat (with_reducible refine wpOrd_soft (fun K hK => ?_); simp only [List.getElem?_toArray, List.getElem?_cons_zero, List.getElem?_cons_succ]; first | (go_simp; refine hK _ ?_) | (simp only [undef]; go_simp; refine hK _ ?_); clear hK K))
    (with_reducible refine wpOrd_hard ?_; simp only [List.getElem?_toArray, List.getElem?_cons_zero, List.getElem?_cons_succ])
    go_wp2_with fail
    refine (fitsBay_any true bays[bay] list[k] _ (yesB HG.out)).mono ?_
    rintro e w1 ⟨rfl, hb1⟩
    have hb1 : Below w.heap.size w w1 := undrew hb1
    go_wp2_with fail
    refine ⟨grown_of_below hb1, ?_⟩
    (repeat (with_reducible refine wpOrd_soft (fun K hK => ?_); simp only [List.getElem?_toArray, List.getElem?_cons_zero, List.getElem?_cons_succ]; first | (go_simp; refine hK _ ?_) | (simp only [undef]; go_simp; refine hK _ ?_); clear hK K))
    (with_reducible refine wpOrd_nil ?_); refine NoPanic.normal ?_
    clear u0 u1 u2 v0 v1 v2 v3 v4 hK
    go_wp2_with fail
    go_loopw [25, 11, 12] (fun i _ _ wr => ∃ j : Nat, j ≤ pl.length ∧ i = .int .i64 j ∧ clearTo list pl k bay j ∧ Below w.heap.size w wr) (fun i _ _ _ => pl.length - (intOf i).toNat)
    case atStart => exact ⟨0, Nat.zero_le _, by go_num, fun j hj => absurd hj (by omega), hb1⟩
    case round =>
      obtain ⟨j, hj, rfl, hc, hb⟩ := hrel
      have HC := Lib.hid hc; clear hc hb1
      by_cases hlt : j < pl.length
      · obtain ⟨b3, o3, rfl, cp⟩ := (hp.mono hb).cells (by simp; omega)
        have p0 : wr.cell? ⟨b3, o3 + j, none⟩ = some (.int .i64 pl[j]) := cp j _ (by simp [hlt])
        clear cp
        have hj2 : j < list.length := by have := HK.out; omega
        obtain ⟨b4, o4, e4, l4, x0, x1, x2, x3, x4⟩ := (hl.mono hb).at hj2
        simp only [Option.some.injEq, Addr.mk.injEq, and_true] at e4
        obtain ⟨rfl, rfl⟩ := e4
        obtain ⟨b5, o5, e5, l5, y0, y1, y2, y3, y4⟩ := (hl.mono hb).at hk2
        simp only [Option.some.injEq, Addr.mk.injEq, and_true] at e5
        obtain ⟨rfl, rfl⟩ := e5
        by_cases g1 : pl[j] = (bay : Int)
        · by_cases g2 : overV list[j] list[k]
          · have HR := Lib.hid (show r = false by
              cases hr : r
              · rfl
              · exact absurd (H.out.1 hr j hlt (by rw [getD_int hlt]; exact g1)) (by rw [getD_cas hj2, getD_cas hk2]; exact fun h => h g2))
            have d1 : decide (pl[j] = (bay : Int)) = true := decide_eq_true g1
            have d2 : (pl[j] == (bay : Int)) = true := by simpa using g1
            have G2 := Lib.hid g2; clear g1 g2
            go_wp2_with fail
            refine wp_region_ord [(0, true), (1, true), (2, true), (3, true), (4, true), (5, true), (6, true), (7, true), (8, true), (9, true), (10, true), (11, true), (12, false), (13, true)] (none) (by kernel_rfl) (by kernel_rfl) ?_
            (repeat (with_reducible refine wpOrd_soft (fun K hK => ?_); simp only [List.getElem?_toArray, List.getElem?_cons_zero, List.getElem?_cons_succ]; first | (go_simp; refine hK _ ?_) | (simp only [undef]; go_simp; refine hK _ ?_); clear hK K))
            (with_reducible refine wpOrd_hard ?_; simp only [List.getElem?_toArray, List.getElem?_cons_zero, List.getElem?_cons_succ])
            go_wp2_with fail
            refine (overlap_any true list[j] list[k] _ (HOK.out _ (List.getElem_mem hj2)) (HOK.out _ (List.getElem_mem hk2)) (yesB G2.out)).mono ?_
            rintro e w2 ⟨rfl, hb1⟩
            have hb1 := undrew hb1
            go_wp2_with fail
            refine ⟨grown_of_below hb1, ?_⟩
            (repeat (with_reducible refine wpOrd_soft (fun K hK => ?_); simp only [List.getElem?_toArray, List.getElem?_cons_zero, List.getElem?_cons_succ]; first | (go_simp; refine hK _ ?_) | (simp only [undef]; go_simp; refine hK _ ?_); clear hK K))
            (with_reducible refine wpOrd_nil ?_); refine NoPanic.normal ?_
            have hb2 : Below w.heap.size w w2 := hb.trans (Below.mono hb1 hb.size)
            go_wp2
            go_ret
            exact ⟨ret_bool HR.out.symm, hb2⟩
          · have HC2 := Lib.hid (clearTo_step HC.out (fun _ => by rw [getD_cas hj2, getD_cas hk2]; exact g2))
            have d2 : (pl[j] == (bay : Int)) = true := by simpa using g1
            have G2 := Lib.hid g2; clear g1 g2
            go_wp2_with fail
            refine wp_region_ord [(0, true), (1, true), (2, true), (3, true), (4, true), (5, true), (6, true), (7, true), (8, true), (9, true), (10, true), (11, true), (12, false), (13, true)] (none) (by kernel_rfl) (by kernel_rfl) ?_
            (repeat (with_reducible refine wpOrd_soft (fun K hK => ?_); simp only [List.getElem?_toArray, List.getElem?_cons_zero, List.getElem?_cons_succ]; first | (go_simp; refine hK _ ?_) | (simp only [undef]; go_simp; refine hK _ ?_); clear hK K))
            (with_reducible refine wpOrd_hard ?_; simp only [List.getElem?_toArray, List.getElem?_cons_zero, List.getElem?_cons_succ])
            go_wp2_with fail
            refine (overlap_any false list[j] list[k] _ (HOK.out _ (List.getElem_mem hj2)) (HOK.out _ (List.getElem_mem hk2)) (noB G2.out)).mono ?_
            rintro e w2 ⟨rfl, hb1⟩
            have hb1 := undrew hb1
            go_wp2_with fail
            refine ⟨grown_of_below hb1, ?_⟩
            (repeat (with_reducible refine wpOrd_soft (fun K hK => ?_); simp only [List.getElem?_toArray, List.getElem?_cons_zero, List.getElem?_cons_succ]; first | (go_simp; refine hK _ ?_) | (simp only [undef]; go_simp; refine hK _ ?_); clear hK K))
            (with_reducible refine wpOrd_nil ?_); refine NoPanic.normal ?_
            have hb2 : Below w.heap.size w w2 := hb.trans (Below.mono hb1 hb.size)
            go_wp2
            go_roundw
            case rel => exact ⟨j + 1, by omega, by go_num, HC2.out, hb2⟩
            case measure => simp [intOf]; omega
        · have HC2 := Lib.hid (clearTo_step HC.out (fun h => absurd h (by rw [getD_int hlt]; exact g1)))
          have d2 : (pl[j] == (bay : Int)) = false := by simpa using g1
          clear g1
          go_wp2_with fail
          refine wp_region_ord [(0, true), (1, true), (2, true), (3, true), (4, true), (5, true), (6, true), (7, true), (8, true), (9, true), (10, true), (11, true), (12, false), (13, true)] (none) (by kernel_rfl) (by kernel_rfl) ?_
          (repeat (with_reducible refine wpOrd_soft (fun K hK => ?_); simp only [List.getElem?_toArray, List.getElem?_cons_zero, List.getElem?_cons_succ]; first | (go_simp; refine hK _ ?_) | (simp only [undef]; go_simp; refine hK _ ?_); clear hK K))
          (with_reducible refine wpOrd_skip ?_ (fun K hK => ?_); exact grown_of_below (by (repeat (first | with_reducible exact Below.refl _ _ | with_reducible exact hbw | (with_reducible refine Below.setCell ?_ ?_ _; rotate_left; · first | exact Nat.le_refl _ | omega | (simp; done) | (simp; omega)) | (with_reducible refine Below.alloc ?_ ?_ _; rotate_left; · first | exact Nat.le_refl _ | omega | (simp; done) | (simp; omega)) | with_reducible refine below_drewN ?_ _ | with_reducible refine Below.drew ?_))); simp only [List.getElem?_toArray, List.getElem?_cons_zero, List.getElem?_cons_succ]; first | (go_simp; refine hK _ ?_) | (simp only [undef]; go_simp; refine hK _ ?_); clear hK K)
          (repeat (with_reducible refine wpOrd_soft (fun K hK => ?_); simp only [List.getElem?_toArray, List.getElem?_cons_zero, List.getElem?_cons_succ]; first | (go_simp; refine hK _ ?_) | (simp only [undef]; go_simp; refine hK _ ?_); clear hK K))
          (with_reducible refine wpOrd_nil ?_); refine NoPanic.normal ?_
          go_wp2
          go_roundw
          case rel => exact ⟨j + 1, by omega, by go_num, HC2.out, hb.trans (by (repeat (first | with_reducible exact Below.refl _ _ | with_reducible exact hbw | (with_reducible refine Below.setCell ?_ ?_ _; rotate_left; · first | exact Nat.le_refl _ | omega | (simp; done) | (simp; omega)) | (with_reducible refine Below.alloc ?_ ?_ _; rotate_left; · first | exact Nat.le_refl _ | omega | (simp; done) | (simp; omega)) | with_reducible refine below_drewN ?_ _ | with_reducible refine Below.drew ?_)))⟩
          case measure => simp [intOf]; omega
      · obtain rfl : j = pl.length := by omega
        have HR := Lib.hid (H.out.2 HC.out)
        go_wp2
        go_ret
        exact ⟨ret_bool HR.out.symm, hb⟩
  · have HG := Lib.hid g
    have HR := Lib.hid (show r = false by
      cases hr : r
      · rfl
      · exact absurd (h.1 hr).1 (by rw [getD_bay hbay, getD_cas hk2]; exact g))
    clear h g
    go_enter Try.func61, Try.ntmps61
    go_wp2_with fail
    refine wp_region_ord [(0, true), (1, true), (2, true), (3, true), (4, true), (5, true), (6, true), (7, true), (8, false), (9, true)] (none) (by kernel_rfl) (by kernel_rfl) ?_
    (repeat (with_reducible refine wpOrd_soft (fun K hK => ?_); simp only [List.getElem?_toArray, List.getElem?_cons_zero, List.getElem?_cons_succ]; first | (go_simp; refine hK _ ?_) | (simp only [undef]; go_simp; refine hK _ ?_); clear hK K))
    (with_reducible refine wpOrd_hard ?_; simp only [List.getElem?_toArray, List.getElem?_cons_zero, List.getElem?_cons_succ])
    go_wp2_with fail
    refine (fitsBay_any false bays[bay] list[k] _ (noB HG.out)).mono ?_
    rintro e w1 ⟨rfl, hb1⟩
    have hb1 : Below w.heap.size w w1 := undrew hb1
    go_wp2_with fail
    refine ⟨grown_of_below hb1, ?_⟩
    (repeat (with_reducible refine wpOrd_soft (fun K hK => ?_); simp only [List.getElem?_toArray, List.getElem?_cons_zero, List.getElem?_cons_succ]; first | (go_simp; refine hK _ ?_) | (simp only [undef]; go_simp; refine hK _ ?_); clear hK K))
    (with_reducible refine wpOrd_nil ?_); refine NoPanic.normal ?_
    go_wp2
    go_ret
    exact ⟨ret_bool HR.out.symm, hb1⟩

set_option maxHeartbeats 2000000 in
theorem l16Possible_any (r : Bool) (vb vl vp : Value) (bays : List BayD) (list : List CasD) (pl : List Int) (k bay : Nat) (w : World) (hb : RdBayDs w vb bays) (hl : RdCasDs w vl list) (hp : Ints w vp pl) (ok : ∀ x ∈ list, casOk x) (hk : k = pl.length) (hk2 : k < list.length) (hbay : bay < bays.length) (h : r = true ↔ canP bays list pl k bay) :
    Calls Try.prog 74 #[vb, vl, vp, .int .i64 k, .int .i64 bay] w fun e w' => e = .returned (.bool r) ∧ Q w w' := by
  obtain ⟨a1, c1, rfl, m1⟩ := hb.form'
  obtain ⟨a2, c2, rfl, m2⟩ := hl.form'
  obtain ⟨a3, c3, rfl, q1, q2, _⟩ := id hp
  have m3 : pl.length ≤ maxLen := by omega
  unfold maxLen at m1 m2 m3
  clear q1 q2
  obtain ⟨b1, o1, rfl, hB⟩ := hb.at hbay
  obtain ⟨b2, o2, rfl, hC⟩ := hl.at hk2
  have HOK := Lib.hid ok; clear ok
  have HK := Lib.hid hk; clear hk
  have HB := Lib.hid hB; have HCK := Lib.hid hC; clear hB hC
  have i1 : (bay : Int) < (bays.length : Int) := by omega
  have i2 : (k : Int) < (list.length : Int) := by omega
  by_cases g : fitV bays[bay] list[k]
  · have HG := Lib.hid g
    have H := Lib.hid (show r = true ↔ clearTo list pl k bay pl.length from h.trans ⟨fun h => h.2, fun h' => ⟨by rw [getD_bay hbay, getD_cas hk2]; exact g, h'⟩⟩)
    clear h g
    go_enter Try.func74, Try.ntmps74
    go_wp2_with fail
    go_quiet ((go_at_call 86; exact quiet_q (l16Fits_any true bays[bay] list[k] _ _ _ _ _ (yesB HG.out) ⟨HB.out.lt, HB.out.c0, HB.out.c1, HB.out.c2⟩ ⟨HCK.out.lt, HCK.out.c0, HCK.out.c1, HCK.out.c2, HCK.out.c3, HCK.out.c4⟩)))
    go_wp2_with fail
    go_loopw [11] (fun i wr => ∃ j : Nat, j ≤ pl.length ∧ i = .int .i64 j ∧ clearTo list pl k bay j ∧ Q w wr) (fun i _ => pl.length - (intOf i).toNat)
    case atStart => exact ⟨0, Nat.zero_le _, by go_num, fun j hj => absurd hj (by omega), ⟨_, rfl⟩⟩
    case round =>
      obtain ⟨j, hj, rfl, hc, hq⟩ := hrel
      have HC := Lib.hid hc; clear hc
      by_cases hlt : j < pl.length
      · have hlt2 : j < k := by have := HK.out; omega
        obtain ⟨b3, o3, rfl, cp⟩ := (hp.q hq).cells (by simp; omega)
        have p0 : wr.cell? ⟨b3, o3 + j, none⟩ = some (.int .i64 pl[j]) := cp j _ (by simp [hlt])
        clear cp
        have hj2 : j < list.length := by have := HK.out; omega
        have i4 : (j : Int) < (list.length : Int) := by omega
        obtain ⟨b4, o4, e4, hJ⟩ := (hl.mono (hq.below _)).at hj2
        simp only [Option.some.injEq, Addr.mk.injEq, and_true] at e4
        obtain ⟨rfl, rfl⟩ := e4
        obtain ⟨b5, o5, e5, hK5⟩ := (hl.mono (hq.below _)).at hk2
        simp only [Option.some.injEq, Addr.mk.injEq, and_true] at e5
        obtain ⟨rfl, rfl⟩ := e5
        have xj := hJ.c4
        have xk := hK5.c4
        obtain ⟨p, hpp⟩ : ∃ p, p = stripV list[k] := ⟨_, rfl⟩
        obtain ⟨q, hqq⟩ : ∃ q, q = stripV list[j] := ⟨_, rfl⟩
        have HP := Lib.hid hpp; have HQ := Lib.hid hqq
        have HJ := Lib.hid hJ; have HK5 := Lib.hid hK5; clear hJ hK5
        have HV := Lib.hid (show overV list[j] list[k] ↔ list[j].since < p ∧ list[k].since < q by rw [hpp, hqq]; exact Iff.rfl)
        clear hpp hqq
        by_cases g1 : pl[j] = (bay : Int)
        · have d0 : (pl[j] == (bay : Int)) = true := by simpa using g1
          by_cases g2 : list[j].since < p
          · have d1 : decide (list[j].since < p) = true := decide_eq_true g2
            by_cases g3 : list[k].since < q
            · have d2 : decide (list[k].since < q) = true := decide_eq_true g3
              have HR := Lib.hid (show r = false by
                cases hr : r
                · rfl
                · exact absurd (H.out.1 hr j hlt (by rw [getD_int hlt]; exact g1)) (by rw [getD_cas hj2, getD_cas hk2]; exact fun h => h (HV.out.2 ⟨g2, g3⟩)))
              clear g1 g2 g3
              go_wp2_with fail
              go_quiet ((go_at_call 87; first | with_reducible exact quiet_q (l16Strip_any p list[k] _ _ _ (HOK.out _ (List.getElem_mem hk2)) HP.out ⟨HK5.out.lt, HK5.out.c0, HK5.out.c1, HK5.out.c2, HK5.out.c3, HK5.out.c4⟩) | with_reducible exact quiet_q (l16Strip_any q list[j] _ _ _ (HOK.out _ (List.getElem_mem hj2)) HQ.out ⟨HJ.out.lt, HJ.out.c0, HJ.out.c1, HJ.out.c2, HJ.out.c3, HJ.out.c4⟩) | exact quiet_q (l16Strip_any p list[k] _ _ _ (HOK.out _ (List.getElem_mem hk2)) HP.out ⟨HK5.out.lt, HK5.out.c0, HK5.out.c1, HK5.out.c2, HK5.out.c3, HK5.out.c4⟩) | exact quiet_q (l16Strip_any q list[j] _ _ _ (HOK.out _ (List.getElem_mem hj2)) HQ.out ⟨HJ.out.lt, HJ.out.c0, HJ.out.c1, HJ.out.c2, HJ.out.c3, HJ.out.c4⟩)))
              go_wp2
              go_ret
              exact ⟨ret_bool HR.out.symm, hq.drewN _⟩
            · have d2 : decide (list[k].since < q) = false := decide_eq_false g3
              have HC2 := Lib.hid (clearTo_step HC.out (fun _ => by rw [getD_cas hj2, getD_cas hk2]; exact fun h => g3 (HV.out.1 h).2))
              clear g1 g2 g3
              go_wp2_with fail
              go_quiet ((go_at_call 87; first | with_reducible exact quiet_q (l16Strip_any p list[k] _ _ _ (HOK.out _ (List.getElem_mem hk2)) HP.out ⟨HK5.out.lt, HK5.out.c0, HK5.out.c1, HK5.out.c2, HK5.out.c3, HK5.out.c4⟩) | with_reducible exact quiet_q (l16Strip_any q list[j] _ _ _ (HOK.out _ (List.getElem_mem hj2)) HQ.out ⟨HJ.out.lt, HJ.out.c0, HJ.out.c1, HJ.out.c2, HJ.out.c3, HJ.out.c4⟩) | exact quiet_q (l16Strip_any p list[k] _ _ _ (HOK.out _ (List.getElem_mem hk2)) HP.out ⟨HK5.out.lt, HK5.out.c0, HK5.out.c1, HK5.out.c2, HK5.out.c3, HK5.out.c4⟩) | exact quiet_q (l16Strip_any q list[j] _ _ _ (HOK.out _ (List.getElem_mem hj2)) HQ.out ⟨HJ.out.lt, HJ.out.c0, HJ.out.c1, HJ.out.c2, HJ.out.c3, HJ.out.c4⟩)))
              go_wp2
              go_roundw
              case rel => exact ⟨j + 1, by omega, by go_num, HC2.out, hq.drewN _⟩
              case measure => simp [intOf]; omega
          · have d1 : decide (list[j].since < p) = false := decide_eq_false g2
            have HC2 := Lib.hid (clearTo_step HC.out (fun _ => by rw [getD_cas hj2, getD_cas hk2]; exact fun h => g2 (HV.out.1 h).1))
            clear g1 g2
            go_wp2_with fail
            go_quiet ((go_at_call 87; first | with_reducible exact quiet_q (l16Strip_any p list[k] _ _ _ (HOK.out _ (List.getElem_mem hk2)) HP.out ⟨HK5.out.lt, HK5.out.c0, HK5.out.c1, HK5.out.c2, HK5.out.c3, HK5.out.c4⟩) | with_reducible exact quiet_q (l16Strip_any q list[j] _ _ _ (HOK.out _ (List.getElem_mem hj2)) HQ.out ⟨HJ.out.lt, HJ.out.c0, HJ.out.c1, HJ.out.c2, HJ.out.c3, HJ.out.c4⟩) | exact quiet_q (l16Strip_any p list[k] _ _ _ (HOK.out _ (List.getElem_mem hk2)) HP.out ⟨HK5.out.lt, HK5.out.c0, HK5.out.c1, HK5.out.c2, HK5.out.c3, HK5.out.c4⟩) | exact quiet_q (l16Strip_any q list[j] _ _ _ (HOK.out _ (List.getElem_mem hj2)) HQ.out ⟨HJ.out.lt, HJ.out.c0, HJ.out.c1, HJ.out.c2, HJ.out.c3, HJ.out.c4⟩)))
            go_wp2
            go_roundw
            case rel => exact ⟨j + 1, by omega, by go_num, HC2.out, hq.drewN _⟩
            case measure => simp [intOf]; omega
        · have HC2 := Lib.hid (clearTo_step HC.out (fun h => absurd h (by rw [getD_int hlt]; exact g1)))
          have d0 : (pl[j] == (bay : Int)) = false := by simpa using g1
          clear g1
          go_wp2_with fail
          go_quiet (fail)
          go_wp2
          go_roundw
          case rel => exact ⟨j + 1, by omega, by go_num, HC2.out, hq.drewN _⟩
          case measure => simp [intOf]; omega
      · have hlt2 : ¬ j < k := by have := HK.out; omega
        obtain rfl : j = pl.length := by omega
        have HR := Lib.hid (H.out.2 HC.out)
        go_wp2
        go_ret
        exact ⟨ret_bool HR.out.symm, hq⟩
  · have HG := Lib.hid g
    have HR := Lib.hid (show r = false by
      cases hr : r
      · rfl
      · exact absurd (h.1 hr).1 (by rw [getD_bay hbay, getD_cas hk2]; exact g))
    clear h g
    go_enter Try.func74, Try.ntmps74
    go_wp2_with fail
    go_quiet ((go_at_call 86; exact quiet_q (l16Fits_any false bays[bay] list[k] _ _ _ _ _ (noB HG.out) ⟨HB.out.lt, HB.out.c0, HB.out.c1, HB.out.c2⟩ ⟨HCK.out.lt, HCK.out.c0, HCK.out.c1, HCK.out.c2, HCK.out.c3, HCK.out.c4⟩)))
    go_wp2
    go_ret
    exact ⟨ret_bool HR.out.symm, _, rfl⟩

end Go.Proofs.Yteaijhmgfddjiaa
