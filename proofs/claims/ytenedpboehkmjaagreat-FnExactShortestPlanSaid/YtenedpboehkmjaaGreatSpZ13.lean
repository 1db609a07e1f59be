import Derived.Test.YtenedpboehkmjaaGreatSpZ12
/- Partials that are too low for a goal; goals of both packages. -/
set_option linter.unusedSimpArgs false
set_option linter.unnecessarySimpa false
set_option linter.unusedVariables false
set_option maxRecDepth 100000
namespace Go.Proofs.YtenedpboehkmjaaGreat
open Go.RowKit

/-- A partial is too low for a goal. -/
def lowB (g : GoalD) (k : Nat) (f : Int) : Bool := decide (f < 10000) || (decide (f ≤ 20000000) && decide (centV (g.t.list.getD k 0) f < -g.tol))
theorem neg_tol {n : Int} (h0 : 0 ≤ n) (h1 : n ≤ 20000) : IntKind.i64.wrap (-n) = -n := IntWalk.i64_in _ (by omega)
theorem goal_hz {g : GoalD} (h : goalOk g) : ∀ x ∈ g.t.list, hzOk x := ((snd_iff g.t).1 h.1).1
/-- A goal lies in block q from its start. -/
structure GoalIn (w : World) (q o : Nat) (g : GoalD) : Prop where
  snd : SndIn w q o g.t
  c5 : w.cell? ⟨q, o + 5, none⟩ = some (.int .i64 g.tol)
  c6 : w.cell? ⟨q, o + 6, none⟩ = some (.int .i64 g.most)
theorem GoalIn.mono {w w' : World} {q o : Nat} {g : GoalD} (h : GoalIn w q o g) (hb : Below w.heap.size w w') : GoalIn w' q o g :=
  ⟨h.snd.mono hb, cellB hb h.c5, cellB hb h.c6⟩
def GoalD.val (g : GoalD) : Value := .agg #[.int .i64 g.t.a, .int .i64 g.t.b, .int .i64 g.t.c, .int .i64 g.t.d, .int .i64 g.t.e, .int .i64 g.tol, .int .i64 g.most]

set_option maxHeartbeats 2000000 in
theorem isTooLow_any (r : Bool) (g : GoalD) (k : Nat) (f : Int) (w : World) (hg : goalOk g) (hk : k < 5) (hr : r = lowB g k f) :
    Calls Tryz.prog 78 #[g.val, .int .i64 (k : Int), .int .i64 f] w fun e w' => e = .returned (.bool r) ∧ Below w.heap.size w w' := by
  by_cases c1 : f < 10000
  · have d1 : decide (f < 10000) = true := decide_eq_true c1
    have HR := Lib.hid (show r = true by rw [hr]; unfold lowB; rw [d1]; rfl)
    clear hr c1
    have HGO := Lib.hid hg
    clear hg
    obtain ⟨tol, htol⟩ : ∃ tol, tol = g.tol := ⟨_, rfl⟩
    have hn := neg_tol HGO.out.2.1.1 HGO.out.2.1.2
    rw [← htol] at hn
    have HTOL := Lib.hid htol
    go_enter Tryz.func78, Tryz.ntmps78
    unfold GoalD.val
    rw [← htol]
    clear htol
    go_wp2_with fail
    obtain ⟨wA, hA⟩ : ∃ wA, wA = w.alloc (.cells #[.int .i64 g.t.a, .int .i64 g.t.b, .int .i64 g.t.c, .int .i64 g.t.d, .int .i64 g.t.e, .int .i64 tol, .int .i64 g.most] 46) := ⟨_, rfl⟩
    rw [← hA]
    have BA := Box.alloc w [.int .i64 g.t.a, .int .i64 g.t.b, .int .i64 g.t.c, .int .i64 g.t.d, .int .i64 g.t.e, .int .i64 tol, .int .i64 g.most] 46 _ rfl
    have HBA := Lib.hid (belowA w (.cells #[.int .i64 g.t.a, .int .i64 g.t.b, .int .i64 g.t.c, .int .i64 g.t.d, .int .i64 g.t.e, .int .i64 tol, .int .i64 g.most] 46))
    rw [← hA] at BA HBA
    clear hA
    have c0 := BA.at' 0 _ rfl
    have c1 := BA.at' 1 _ rfl
    have c2 := BA.at' 2 _ rfl
    have c3 := BA.at' 3 _ rfl
    have c4 := BA.at' 4 _ rfl
    have c5 := BA.at' 5 _ rfl
    have l0 := BA.lt
    clear BA
    go_wp2_with fail
    refine wp_region_ord [(0, true), (1, true), (2, true), (3, true), (4, true), (5, true), (6, true), (7, true), (9, true), (12, true), (14, true), (15, true), (16, true), (8, false), (10, false), (11, false), (13, false), (17, true), (18, true), (19, true), (20, true)] (none) (by kernel_rfl) (by kernel_rfl) ?_
    (repeat (with_reducible refine wpOrd_soft (fun K hK => ?_); simp only [List.getElem?_toArray, List.getElem?_cons_zero, List.getElem?_cons_succ]; first | (go_simp; refine hK _ ?_) | (simp only [undef]; go_simp; refine hK _ ?_); clear hK K))
    (with_reducible refine wpOrd_skip ?_ (fun K hK => ?_); exact grown_drewS (grown_selfS _ _); simp only [List.getElem?_toArray, List.getElem?_cons_zero, List.getElem?_cons_succ]; first | (go_simp; refine hK _ ?_) | (simp only [undef]; go_simp; refine hK _ ?_); clear hK K)
    (with_reducible refine wpOrd_skip ?_ (fun K hK => ?_); exact grown_drewS (grown_selfS _ _); simp only [List.getElem?_toArray, List.getElem?_cons_zero, List.getElem?_cons_succ]; first | (go_simp; refine hK _ ?_) | (simp only [undef]; go_simp; refine hK _ ?_); clear hK K)
    (with_reducible refine wpOrd_skip ?_ (fun K hK => ?_); exact grown_drewS (grown_selfS _ _); simp only [List.getElem?_toArray, List.getElem?_cons_zero, List.getElem?_cons_succ]; first | (go_simp; refine hK _ ?_) | (simp only [undef]; go_simp; refine hK _ ?_); clear hK K)
    (with_reducible refine wpOrd_skip ?_ (fun K hK => ?_); exact grown_drewS (grown_selfS _ _); simp only [List.getElem?_toArray, List.getElem?_cons_zero, List.getElem?_cons_succ]; first | (go_simp; refine hK _ ?_) | (simp only [undef]; go_simp; refine hK _ ?_); clear hK K)
    (repeat (with_reducible refine wpOrd_soft (fun K hK => ?_); simp only [List.getElem?_toArray, List.getElem?_cons_zero, List.getElem?_cons_succ]; first | (go_simp; refine hK _ ?_) | (simp only [undef]; go_simp; refine hK _ ?_); clear hK K))
    (with_reducible refine wpOrd_nil ?_); refine NoPanic.normal ?_
    go_wp2
    go_ret
    exact ⟨by rw [HR.out]; rfl, HBA.out.drew⟩
  · have d1 : decide (f < 10000) = false := decide_eq_false c1
    by_cases c2 : f ≤ 20000000
    · have d2 : decide (f ≤ 20000000) = true := decide_eq_true c2
      have HF := Lib.hid (show hzOk f by unfold hzOk; omega)
      obtain ⟨c, hc⟩ : ∃ c, c = centV (g.t.list.getD k 0) f := ⟨_, rfl⟩
      have HC := Lib.hid hc
      by_cases c3 : c < -g.tol
      · have d3 : decide (c < -g.tol) = true := decide_eq_true c3
        have HR := Lib.hid (show r = true by rw [hr]; unfold lowB; rw [d1, d2, ← hc, d3]; rfl)
        clear hr c1 c2 c3 hc
        have HGO := Lib.hid hg
        clear hg
        obtain ⟨tol, htol⟩ : ∃ tol, tol = g.tol := ⟨_, rfl⟩
        have hn := neg_tol HGO.out.2.1.1 HGO.out.2.1.2
        rw [← htol] at hn
        have HTOL := Lib.hid htol
        go_enter Tryz.func78, Tryz.ntmps78
        unfold GoalD.val
        rw [← htol]
        clear htol
        go_wp2_with fail
        obtain ⟨wA, hA⟩ : ∃ wA, wA = w.alloc (.cells #[.int .i64 g.t.a, .int .i64 g.t.b, .int .i64 g.t.c, .int .i64 g.t.d, .int .i64 g.t.e, .int .i64 tol, .int .i64 g.most] 46) := ⟨_, rfl⟩
        rw [← hA]
        have BA := Box.alloc w [.int .i64 g.t.a, .int .i64 g.t.b, .int .i64 g.t.c, .int .i64 g.t.d, .int .i64 g.t.e, .int .i64 tol, .int .i64 g.most] 46 _ rfl
        have HBA := Lib.hid (belowA w (.cells #[.int .i64 g.t.a, .int .i64 g.t.b, .int .i64 g.t.c, .int .i64 g.t.d, .int .i64 g.t.e, .int .i64 tol, .int .i64 g.most] 46))
        rw [← hA] at BA HBA
        clear hA
        have c0 := BA.at' 0 _ rfl
        have c1 := BA.at' 1 _ rfl
        have c2 := BA.at' 2 _ rfl
        have c3 := BA.at' 3 _ rfl
        have c4 := BA.at' 4 _ rfl
        have c5 := BA.at' 5 _ rfl
        have l0 := BA.lt
        clear BA
        go_wp2_with fail
        refine wp_region_ord [(0, true), (1, true), (2, true), (3, true), (4, true), (5, true), (6, true), (7, true), (9, true), (12, true), (14, true), (15, true), (16, true), (8, false), (10, false), (11, false), (13, false), (17, true), (18, true), (19, true), (20, true)] (none) (by kernel_rfl) (by kernel_rfl) ?_
        (repeat (with_reducible refine wpOrd_soft (fun K hK => ?_); simp only [List.getElem?_toArray, List.getElem?_cons_zero, List.getElem?_cons_succ]; first | (go_simp; refine hK _ ?_) | (simp only [undef]; go_simp; refine hK _ ?_); clear hK K))
        rw [← HTOL.out] at d3
        (with_reducible refine wpOrd_hard ?_; simp only [List.getElem?_toArray, List.getElem?_cons_zero, List.getElem?_cons_succ])
        go_wp2_with fail
        refine (listOf_any g.t _).mono ?_
        rintro e w1 ⟨v1, rfl, ho1, hb1⟩
        obtain ⟨a1, k1, rfl⟩ := ho1.form
        rw [show g.t.list.length = 5 from rfl]
        obtain ⟨b1, o1, rfl, cp⟩ := ho1.rd.cells (by simp [SndD.list])
        have z1 := cp k _ (list_at hk).2
        have hb1 : Below wA.heap.size wA w1 := undrew hb1
        have hkk : (k : Int) < 5 := by omega
        clear cp ho1
        obtain ⟨x, hx⟩ : ∃ x, x = g.t.list.getD k 0 := ⟨_, rfl⟩
        have HX := Lib.hid (show hzOk x by rw [hx]; exact goal_hz HGO.out _ (list_at hk).1)
        rw [← hx] at z1 HC
        clear hx
        go_wp2_with fail
        refine ⟨grown_stepS hb1, ?_⟩
        (with_reducible refine wpOrd_hard ?_; simp only [List.getElem?_toArray, List.getElem?_cons_zero, List.getElem?_cons_succ])
        go_wp2_with fail
        refine ⟨grown_stepS hb1, ?_⟩
        (with_reducible refine wpOrd_hard ?_; simp only [List.getElem?_toArray, List.getElem?_cons_zero, List.getElem?_cons_succ])
        go_wp2_with fail
        refine ⟨grown_stepS hb1, ?_⟩
        (with_reducible refine wpOrd_hard ?_; simp only [List.getElem?_toArray, List.getElem?_cons_zero, List.getElem?_cons_succ])
        go_wp2_with fail
        refine (cents_any c x f _ HX.out HF.out HC.out).mono ?_
        rintro e w2 ⟨rfl, rfl⟩
        go_wp2_with fail
        refine ⟨grown_stepS hb1, ?_⟩
        (repeat (with_reducible refine wpOrd_soft (fun K hK => ?_); simp only [List.getElem?_toArray, List.getElem?_cons_zero, List.getElem?_cons_succ]; first | (go_simp; refine hK _ ?_) | (simp only [undef]; go_simp; refine hK _ ?_); clear hK K))
        (with_reducible refine wpOrd_nil ?_); refine NoPanic.normal ?_
        go_wp2
        go_ret
        exact ⟨by rw [HR.out]; rfl, HBA.out.trans (hb1.mono HBA.out.size)⟩
      · have d3 : decide (c < -g.tol) = false := decide_eq_false c3
        have HR := Lib.hid (show r = false by rw [hr]; unfold lowB; rw [d1, d2, ← hc, d3]; rfl)
        clear hr c1 c2 c3 hc
        have HGO := Lib.hid hg
        clear hg
        obtain ⟨tol, htol⟩ : ∃ tol, tol = g.tol := ⟨_, rfl⟩
        have hn := neg_tol HGO.out.2.1.1 HGO.out.2.1.2
        rw [← htol] at hn
        have HTOL := Lib.hid htol
        go_enter Tryz.func78, Tryz.ntmps78
        unfold GoalD.val
        rw [← htol]
        clear htol
        go_wp2_with fail
        obtain ⟨wA, hA⟩ : ∃ wA, wA = w.alloc (.cells #[.int .i64 g.t.a, .int .i64 g.t.b, .int .i64 g.t.c, .int .i64 g.t.d, .int .i64 g.t.e, .int .i64 tol, .int .i64 g.most] 46) := ⟨_, rfl⟩
        rw [← hA]
        have BA := Box.alloc w [.int .i64 g.t.a, .int .i64 g.t.b, .int .i64 g.t.c, .int .i64 g.t.d, .int .i64 g.t.e, .int .i64 tol, .int .i64 g.most] 46 _ rfl
        have HBA := Lib.hid (belowA w (.cells #[.int .i64 g.t.a, .int .i64 g.t.b, .int .i64 g.t.c, .int .i64 g.t.d, .int .i64 g.t.e, .int .i64 tol, .int .i64 g.most] 46))
        rw [← hA] at BA HBA
        clear hA
        have c0 := BA.at' 0 _ rfl
        have c1 := BA.at' 1 _ rfl
        have c2 := BA.at' 2 _ rfl
        have c3 := BA.at' 3 _ rfl
        have c4 := BA.at' 4 _ rfl
        have c5 := BA.at' 5 _ rfl
        have l0 := BA.lt
        clear BA
        go_wp2_with fail
        refine wp_region_ord [(0, true), (1, true), (2, true), (3, true), (4, true), (5, true), (6, true), (7, true), (9, true), (12, true), (14, true), (15, true), (16, true), (8, false), (10, false), (11, false), (13, false), (17, true), (18, true), (19, true), (20, true)] (none) (by kernel_rfl) (by kernel_rfl) ?_
        (repeat (with_reducible refine wpOrd_soft (fun K hK => ?_); simp only [List.getElem?_toArray, List.getElem?_cons_zero, List.getElem?_cons_succ]; first | (go_simp; refine hK _ ?_) | (simp only [undef]; go_simp; refine hK _ ?_); clear hK K))
        rw [← HTOL.out] at d3
        (with_reducible refine wpOrd_hard ?_; simp only [List.getElem?_toArray, List.getElem?_cons_zero, List.getElem?_cons_succ])
        go_wp2_with fail
        refine (listOf_any g.t _).mono ?_
        rintro e w1 ⟨v1, rfl, ho1, hb1⟩
        obtain ⟨a1, k1, rfl⟩ := ho1.form
        rw [show g.t.list.length = 5 from rfl]
        obtain ⟨b1, o1, rfl, cp⟩ := ho1.rd.cells (by simp [SndD.list])
        have z1 := cp k _ (list_at hk).2
        have hb1 : Below wA.heap.size wA w1 := undrew hb1
        have hkk : (k : Int) < 5 := by omega
        clear cp ho1
        obtain ⟨x, hx⟩ : ∃ x, x = g.t.list.getD k 0 := ⟨_, rfl⟩
        have HX := Lib.hid (show hzOk x by rw [hx]; exact goal_hz HGO.out _ (list_at hk).1)
        rw [← hx] at z1 HC
        clear hx
        go_wp2_with fail
        refine ⟨grown_stepS hb1, ?_⟩
        (with_reducible refine wpOrd_hard ?_; simp only [List.getElem?_toArray, List.getElem?_cons_zero, List.getElem?_cons_succ])
        go_wp2_with fail
        refine ⟨grown_stepS hb1, ?_⟩
        (with_reducible refine wpOrd_hard ?_; simp only [List.getElem?_toArray, List.getElem?_cons_zero, List.getElem?_cons_succ])
        go_wp2_with fail
        refine ⟨grown_stepS hb1, ?_⟩
        (with_reducible refine wpOrd_hard ?_; simp only [List.getElem?_toArray, List.getElem?_cons_zero, List.getElem?_cons_succ])
        go_wp2_with fail
        refine (cents_any c x f _ HX.out HF.out HC.out).mono ?_
        rintro e w2 ⟨rfl, rfl⟩
        go_wp2_with fail
        refine ⟨grown_stepS hb1, ?_⟩
        (repeat (with_reducible refine wpOrd_soft (fun K hK => ?_); simp only [List.getElem?_toArray, List.getElem?_cons_zero, List.getElem?_cons_succ]; first | (go_simp; refine hK _ ?_) | (simp only [undef]; go_simp; refine hK _ ?_); clear hK K))
        (with_reducible refine wpOrd_nil ?_); refine NoPanic.normal ?_
        go_wp2
        go_ret
        exact ⟨by rw [HR.out]; rfl, HBA.out.trans (hb1.mono HBA.out.size)⟩
    · have d2 : decide (f ≤ 20000000) = false := decide_eq_false c2
      have HR := Lib.hid (show r = false by rw [hr]; unfold lowB; rw [d1, d2]; rfl)
      clear hr c1 c2
      have HGO := Lib.hid hg
      clear hg
      obtain ⟨tol, htol⟩ : ∃ tol, tol = g.tol := ⟨_, rfl⟩
      have hn := neg_tol HGO.out.2.1.1 HGO.out.2.1.2
      rw [← htol] at hn
      have HTOL := Lib.hid htol
      go_enter Tryz.func78, Tryz.ntmps78
      unfold GoalD.val
      rw [← htol]
      clear htol
      go_wp2_with fail
      obtain ⟨wA, hA⟩ : ∃ wA, wA = w.alloc (.cells #[.int .i64 g.t.a, .int .i64 g.t.b, .int .i64 g.t.c, .int .i64 g.t.d, .int .i64 g.t.e, .int .i64 tol, .int .i64 g.most] 46) := ⟨_, rfl⟩
      rw [← hA]
      have BA := Box.alloc w [.int .i64 g.t.a, .int .i64 g.t.b, .int .i64 g.t.c, .int .i64 g.t.d, .int .i64 g.t.e, .int .i64 tol, .int .i64 g.most] 46 _ rfl
      have HBA := Lib.hid (belowA w (.cells #[.int .i64 g.t.a, .int .i64 g.t.b, .int .i64 g.t.c, .int .i64 g.t.d, .int .i64 g.t.e, .int .i64 tol, .int .i64 g.most] 46))
      rw [← hA] at BA HBA
      clear hA
      have c0 := BA.at' 0 _ rfl
      have c1 := BA.at' 1 _ rfl
      have c2 := BA.at' 2 _ rfl
      have c3 := BA.at' 3 _ rfl
      have c4 := BA.at' 4 _ rfl
      have c5 := BA.at' 5 _ rfl
      have l0 := BA.lt
      clear BA
      go_wp2_with fail
      refine wp_region_ord [(0, true), (1, true), (2, true), (3, true), (4, true), (5, true), (6, true), (7, true), (9, true), (12, true), (14, true), (15, true), (16, true), (8, false), (10, false), (11, false), (13, false), (17, true), (18, true), (19, true), (20, true)] (none) (by kernel_rfl) (by kernel_rfl) ?_
      (repeat (with_reducible refine wpOrd_soft (fun K hK => ?_); simp only [List.getElem?_toArray, List.getElem?_cons_zero, List.getElem?_cons_succ]; first | (go_simp; refine hK _ ?_) | (simp only [undef]; go_simp; refine hK _ ?_); clear hK K))
      (with_reducible refine wpOrd_skip ?_ (fun K hK => ?_); exact grown_drewS (grown_selfS _ _); simp only [List.getElem?_toArray, List.getElem?_cons_zero, List.getElem?_cons_succ]; first | (go_simp; refine hK _ ?_) | (simp only [undef]; go_simp; refine hK _ ?_); clear hK K)
      (with_reducible refine wpOrd_skip ?_ (fun K hK => ?_); exact grown_drewS (grown_selfS _ _); simp only [List.getElem?_toArray, List.getElem?_cons_zero, List.getElem?_cons_succ]; first | (go_simp; refine hK _ ?_) | (simp only [undef]; go_simp; refine hK _ ?_); clear hK K)
      (with_reducible refine wpOrd_skip ?_ (fun K hK => ?_); exact grown_drewS (grown_selfS _ _); simp only [List.getElem?_toArray, List.getElem?_cons_zero, List.getElem?_cons_succ]; first | (go_simp; refine hK _ ?_) | (simp only [undef]; go_simp; refine hK _ ?_); clear hK K)
      (with_reducible refine wpOrd_skip ?_ (fun K hK => ?_); exact grown_drewS (grown_selfS _ _); simp only [List.getElem?_toArray, List.getElem?_cons_zero, List.getElem?_cons_succ]; first | (go_simp; refine hK _ ?_) | (simp only [undef]; go_simp; refine hK _ ?_); clear hK K)
      (repeat (with_reducible refine wpOrd_soft (fun K hK => ?_); simp only [List.getElem?_toArray, List.getElem?_cons_zero, List.getElem?_cons_succ]; first | (go_simp; refine hK _ ?_) | (simp only [undef]; go_simp; refine hK _ ?_); clear hK K))
      (with_reducible refine wpOrd_nil ?_); refine NoPanic.normal ?_
      go_wp2
      go_ret
      exact ⟨by rw [HR.out]; rfl, HBA.out.drew⟩

set_option maxHeartbeats 2000000 in
theorem l10Low_any (r : Bool) (q o : Nat) (g : GoalD) (k : Nat) (f : Int) (w : World) (hi : GoalIn w q o g) (hg : goalOk g) (hk : k < 5) (hr : r = lowB g k f) :
    Calls Tryz.prog 46 #[.pointer (some ⟨q, o, none⟩), .int .i64 f, .int .i64 (k : Int)] w fun e w' => e = .returned (.bool r) ∧ Below w.heap.size w w' := by
  by_cases c1 : f < 10000
  · have d1 : decide (f < 10000) = true := decide_eq_true c1
    have HR := Lib.hid (show r = true by rw [hr]; unfold lowB; rw [d1]; rfl)
    clear hr c1
    have HGO := Lib.hid hg
    have HI := Lib.hid hi
    have c5 := hi.c5
    have l0 := hi.snd.lt
    clear hg hi
    obtain ⟨tol, htol⟩ : ∃ tol, tol = g.tol := ⟨_, rfl⟩
    have hn := neg_tol HGO.out.2.1.1 HGO.out.2.1.2
    rw [← htol] at hn c5
    have HTOL := Lib.hid htol
    clear htol
    go_enter Tryz.func46, Tryz.ntmps46
    go_wp2_with fail
    refine wp_region_ord [(0, true), (1, true), (2, true), (3, true), (4, true), (5, true), (6, true), (7, true), (8, true), (10, true), (13, true), (15, true), (16, true), (17, true), (18, true), (19, true), (9, false), (11, false), (12, false), (14, false), (20, true), (21, true), (22, true), (23, true)] (none) (by kernel_rfl) (by kernel_rfl) ?_
    (repeat (with_reducible refine wpOrd_soft (fun K hK => ?_); simp only [List.getElem?_toArray, List.getElem?_cons_zero, List.getElem?_cons_succ]; first | (go_simp; refine hK _ ?_) | (simp only [undef]; go_simp; refine hK _ ?_); clear hK K))
    (with_reducible refine wpOrd_skip ?_ (fun K hK => ?_); exact grown_drewS (grown_selfS _ _); simp only [List.getElem?_toArray, List.getElem?_cons_zero, List.getElem?_cons_succ]; first | (go_simp; refine hK _ ?_) | (simp only [undef]; go_simp; refine hK _ ?_); clear hK K)
    (with_reducible refine wpOrd_skip ?_ (fun K hK => ?_); exact grown_drewS (grown_selfS _ _); simp only [List.getElem?_toArray, List.getElem?_cons_zero, List.getElem?_cons_succ]; first | (go_simp; refine hK _ ?_) | (simp only [undef]; go_simp; refine hK _ ?_); clear hK K)
    (with_reducible refine wpOrd_skip ?_ (fun K hK => ?_); exact grown_drewS (grown_selfS _ _); simp only [List.getElem?_toArray, List.getElem?_cons_zero, List.getElem?_cons_succ]; first | (go_simp; refine hK _ ?_) | (simp only [undef]; go_simp; refine hK _ ?_); clear hK K)
    (with_reducible refine wpOrd_skip ?_ (fun K hK => ?_); exact grown_drewS (grown_selfS _ _); simp only [List.getElem?_toArray, List.getElem?_cons_zero, List.getElem?_cons_succ]; first | (go_simp; refine hK _ ?_) | (simp only [undef]; go_simp; refine hK _ ?_); clear hK K)
    (repeat (with_reducible refine wpOrd_soft (fun K hK => ?_); simp only [List.getElem?_toArray, List.getElem?_cons_zero, List.getElem?_cons_succ]; first | (go_simp; refine hK _ ?_) | (simp only [undef]; go_simp; refine hK _ ?_); clear hK K))
    (with_reducible refine wpOrd_nil ?_); refine NoPanic.normal ?_
    go_wp2
    go_ret
    exact ⟨by rw [HR.out]; rfl, (Below.refl _ _).drew⟩
  · have d1 : decide (f < 10000) = false := decide_eq_false c1
    by_cases c2 : f ≤ 20000000
    · have d2 : decide (f ≤ 20000000) = true := decide_eq_true c2
      have HF := Lib.hid (show hzOk f by unfold hzOk; omega)
      obtain ⟨c, hc⟩ : ∃ c, c = centV (g.t.list.getD k 0) f := ⟨_, rfl⟩
      have HC := Lib.hid hc
      by_cases c3 : c < -g.tol
      · have d3 : decide (c < -g.tol) = true := decide_eq_true c3
        have HR := Lib.hid (show r = true by rw [hr]; unfold lowB; rw [d1, d2, ← hc, d3]; rfl)
        clear hr c1 c2 c3 hc
        have HGO := Lib.hid hg
        have HI := Lib.hid hi
        have c5 := hi.c5
        have l0 := hi.snd.lt
        clear hg hi
        obtain ⟨tol, htol⟩ : ∃ tol, tol = g.tol := ⟨_, rfl⟩
        have hn := neg_tol HGO.out.2.1.1 HGO.out.2.1.2
        rw [← htol] at hn c5
        have HTOL := Lib.hid htol
        clear htol
        go_enter Tryz.func46, Tryz.ntmps46
        go_wp2_with fail
        refine wp_region_ord [(0, true), (1, true), (2, true), (3, true), (4, true), (5, true), (6, true), (7, true), (8, true), (10, true), (13, true), (15, true), (16, true), (17, true), (18, true), (19, true), (9, false), (11, false), (12, false), (14, false), (20, true), (21, true), (22, true), (23, true)] (none) (by kernel_rfl) (by kernel_rfl) ?_
        (repeat (with_reducible refine wpOrd_soft (fun K hK => ?_); simp only [List.getElem?_toArray, List.getElem?_cons_zero, List.getElem?_cons_succ]; first | (go_simp; refine hK _ ?_) | (simp only [undef]; go_simp; refine hK _ ?_); clear hK K))
        rw [← HTOL.out] at d3
        (with_reducible refine wpOrd_hard ?_; simp only [List.getElem?_toArray, List.getElem?_cons_zero, List.getElem?_cons_succ])
        go_wp2_with fail
        refine (l04List_any q o g.t _ (HI.out.snd.mono (Below.refl _ _).drew)).mono ?_
        rintro e w1 ⟨v1, rfl, ho1, hb1⟩
        obtain ⟨a1, k1, rfl⟩ := ho1.form
        rw [show g.t.list.length = 5 from rfl]
        obtain ⟨b1, o1, rfl, cp⟩ := ho1.rd.cells (by simp [SndD.list])
        have z1 := cp k _ (list_at hk).2
        have hb1 : Below w.heap.size w w1 := undrew hb1
        have hkk : (k : Int) < 5 := by omega
        clear cp ho1
        obtain ⟨x, hx⟩ : ∃ x, x = g.t.list.getD k 0 := ⟨_, rfl⟩
        have HX := Lib.hid (show hzOk x by rw [hx]; exact goal_hz HGO.out _ (list_at hk).1)
        rw [← hx] at z1 HC
        clear hx
        go_wp2_with fail
        refine ⟨grown_stepS hb1, ?_⟩
        (with_reducible refine wpOrd_hard ?_; simp only [List.getElem?_toArray, List.getElem?_cons_zero, List.getElem?_cons_succ])
        go_wp2_with fail
        refine ⟨grown_stepS hb1, ?_⟩
        (with_reducible refine wpOrd_hard ?_; simp only [List.getElem?_toArray, List.getElem?_cons_zero, List.getElem?_cons_succ])
        go_wp2_with fail
        refine ⟨grown_stepS hb1, ?_⟩
        (with_reducible refine wpOrd_hard ?_; simp only [List.getElem?_toArray, List.getElem?_cons_zero, List.getElem?_cons_succ])
        go_wp2_with fail
        refine (l02Between_any c x f _ HX.out HF.out HC.out).mono ?_
        rintro e w2 ⟨rfl, rfl⟩
        go_wp2_with fail
        refine ⟨grown_stepS hb1, ?_⟩
        (repeat (with_reducible refine wpOrd_soft (fun K hK => ?_); simp only [List.getElem?_toArray, List.getElem?_cons_zero, List.getElem?_cons_succ]; first | (go_simp; refine hK _ ?_) | (simp only [undef]; go_simp; refine hK _ ?_); clear hK K))
        (with_reducible refine wpOrd_nil ?_); refine NoPanic.normal ?_
        go_wp2
        go_ret
        exact ⟨by rw [HR.out]; rfl, hb1⟩
      · have d3 : decide (c < -g.tol) = false := decide_eq_false c3
        have HR := Lib.hid (show r = false by rw [hr]; unfold lowB; rw [d1, d2, ← hc, d3]; rfl)
        clear hr c1 c2 c3 hc
        have HGO := Lib.hid hg
        have HI := Lib.hid hi
        have c5 := hi.c5
        have l0 := hi.snd.lt
        clear hg hi
        obtain ⟨tol, htol⟩ : ∃ tol, tol = g.tol := ⟨_, rfl⟩
        have hn := neg_tol HGO.out.2.1.1 HGO.out.2.1.2
        rw [← htol] at hn c5
        have HTOL := Lib.hid htol
        clear htol
        go_enter Tryz.func46, Tryz.ntmps46
        go_wp2_with fail
        refine wp_region_ord [(0, true), (1, true), (2, true), (3, true), (4, true), (5, true), (6, true), (7, true), (8, true), (10, true), (13, true), (15, true), (16, true), (17, true), (18, true), (19, true), (9, false), (11, false), (12, false), (14, false), (20, true), (21, true), (22, true), (23, true)] (none) (by kernel_rfl) (by kernel_rfl) ?_
        (repeat (with_reducible refine wpOrd_soft (fun K hK => ?_); simp only [List.getElem?_toArray, List.getElem?_cons_zero, List.getElem?_cons_succ]; first | (go_simp; refine hK _ ?_) | (simp only [undef]; go_simp; refine hK _ ?_); clear hK K))
        rw [← HTOL.out] at d3
        (with_reducible refine wpOrd_hard ?_; simp only [List.getElem?_toArray, List.getElem?_cons_zero, List.getElem?_cons_succ])
        go_wp2_with fail
        refine (l04List_any q o g.t _ (HI.out.snd.mono (Below.refl _ _).drew)).mono ?_
        rintro e w1 ⟨v1, rfl, ho1, hb1⟩
        obtain ⟨a1, k1, rfl⟩ := ho1.form
        rw [show g.t.list.length = 5 from rfl]
        obtain ⟨b1, o1, rfl, cp⟩ := ho1.rd.cells (by simp [SndD.list])
        have z1 := cp k _ (list_at hk).2
        have hb1 : Below w.heap.size w w1 := undrew hb1
        have hkk : (k : Int) < 5 := by omega
        clear cp ho1
        obtain ⟨x, hx⟩ : ∃ x, x = g.t.list.getD k 0 := ⟨_, rfl⟩
        have HX := Lib.hid (show hzOk x by rw [hx]; exact goal_hz HGO.out _ (list_at hk).1)
        rw [← hx] at z1 HC
        clear hx
        go_wp2_with fail
        refine ⟨grown_stepS hb1, ?_⟩
        (with_reducible refine wpOrd_hard ?_; simp only [List.getElem?_toArray, List.getElem?_cons_zero, List.getElem?_cons_succ])
        go_wp2_with fail
        refine ⟨grown_stepS hb1, ?_⟩
        (with_reducible refine wpOrd_hard ?_; simp only [List.getElem?_toArray, List.getElem?_cons_zero, List.getElem?_cons_succ])
        go_wp2_with fail
        refine ⟨grown_stepS hb1, ?_⟩
        (with_reducible refine wpOrd_hard ?_; simp only [List.getElem?_toArray, List.getElem?_cons_zero, List.getElem?_cons_succ])
        go_wp2_with fail
        refine (l02Between_any c x f _ HX.out HF.out HC.out).mono ?_
        rintro e w2 ⟨rfl, rfl⟩
        go_wp2_with fail
        refine ⟨grown_stepS hb1, ?_⟩
        (repeat (with_reducible refine wpOrd_soft (fun K hK => ?_); simp only [List.getElem?_toArray, List.getElem?_cons_zero, List.getElem?_cons_succ]; first | (go_simp; refine hK _ ?_) | (simp only [undef]; go_simp; refine hK _ ?_); clear hK K))
        (with_reducible refine wpOrd_nil ?_); refine NoPanic.normal ?_
        go_wp2
        go_ret
        exact ⟨by rw [HR.out]; rfl, hb1⟩
    · have d2 : decide (f ≤ 20000000) = false := decide_eq_false c2
      have HR := Lib.hid (show r = false by rw [hr]; unfold lowB; rw [d1, d2]; rfl)
      clear hr c1 c2
      have HGO := Lib.hid hg
      have HI := Lib.hid hi
      have c5 := hi.c5
      have l0 := hi.snd.lt
      clear hg hi
      obtain ⟨tol, htol⟩ : ∃ tol, tol = g.tol := ⟨_, rfl⟩
      have hn := neg_tol HGO.out.2.1.1 HGO.out.2.1.2
      rw [← htol] at hn c5
      have HTOL := Lib.hid htol
      clear htol
      go_enter Tryz.func46, Tryz.ntmps46
      go_wp2_with fail
      refine wp_region_ord [(0, true), (1, true), (2, true), (3, true), (4, true), (5, true), (6, true), (7, true), (8, true), (10, true), (13, true), (15, true), (16, true), (17, true), (18, true), (19, true), (9, false), (11, false), (12, false), (14, false), (20, true), (21, true), (22, true), (23, true)] (none) (by kernel_rfl) (by kernel_rfl) ?_
      (repeat (with_reducible refine wpOrd_soft (fun K hK => ?_); simp only [List.getElem?_toArray, List.getElem?_cons_zero, List.getElem?_cons_succ]; first | (go_simp; refine hK _ ?_) | (simp only [undef]; go_simp; refine hK _ ?_); clear hK K))
      (with_reducible refine wpOrd_skip ?_ (fun K hK => ?_); exact grown_drewS (grown_selfS _ _); simp only [List.getElem?_toArray, List.getElem?_cons_zero, List.getElem?_cons_succ]; first | (go_simp; refine hK _ ?_) | (simp only [undef]; go_simp; refine hK _ ?_); clear hK K)
      (with_reducible refine wpOrd_skip ?_ (fun K hK => ?_); exact grown_drewS (grown_selfS _ _); simp only [List.getElem?_toArray, List.getElem?_cons_zero, List.getElem?_cons_succ]; first | (go_simp; refine hK _ ?_) | (simp only [undef]; go_simp; refine hK _ ?_); clear hK K)
      (with_reducible refine wpOrd_skip ?_ (fun K hK => ?_); exact grown_drewS (grown_selfS _ _); simp only [List.getElem?_toArray, List.getElem?_cons_zero, List.getElem?_cons_succ]; first | (go_simp; refine hK _ ?_) | (simp only [undef]; go_simp; refine hK _ ?_); clear hK K)
      (with_reducible refine wpOrd_skip ?_ (fun K hK => ?_); exact grown_drewS (grown_selfS _ _); simp only [List.getElem?_toArray, List.getElem?_cons_zero, List.getElem?_cons_succ]; first | (go_simp; refine hK _ ?_) | (simp only [undef]; go_simp; refine hK _ ?_); clear hK K)
      (repeat (with_reducible refine wpOrd_soft (fun K hK => ?_); simp only [List.getElem?_toArray, List.getElem?_cons_zero, List.getElem?_cons_succ]; first | (go_simp; refine hK _ ?_) | (simp only [undef]; go_simp; refine hK _ ?_); clear hK K))
      (with_reducible refine wpOrd_nil ?_); refine NoPanic.normal ?_
      go_wp2
      go_ret
      exact ⟨by rw [HR.out]; rfl, (Below.refl _ _).drew⟩

end Go.Proofs.YtenedpboehkmjaaGreat
/- Valid goals of both packages. -/
set_option linter.unusedSimpArgs false
set_option linter.unnecessarySimpa false
set_option linter.unusedVariables false
set_option maxRecDepth 100000
namespace Go.Proofs.YtenedpboehkmjaaGreat
open Go.RowKit

instance (g : GoalD) : Decidable (goalOk g) := by unfold goalOk; infer_instance
theorem goal_and (g : GoalD) : decide (goalOk g) = (decide (sndOk g.t) && (decide (0 ≤ g.tol ∧ g.tol ≤ 20000) && decide (0 ≤ g.most ∧ g.most ≤ 20))) := by
  unfold goalOk
  rw [Bool.eq_iff_iff]
  simp only [Bool.and_eq_true, decide_eq_true_eq]
  exact ⟨of_decide_eq_true, decide_eq_true⟩

set_option maxHeartbeats 1000000 in
theorem ValidGoal_any (r : Bool) (g : GoalD) (w : World) (hr : r = decide (goalOk g)) :
    Calls Tryz.prog 69 #[g.val] w fun e w' => e = .returned (.bool r) ∧ Below w.heap.size w w' := by
  obtain ⟨b1, hb1⟩ : ∃ b, b = decide (sndOk g.t) := ⟨_, rfl⟩
  obtain ⟨b2, hb2⟩ : ∃ b, b = decide (0 ≤ g.tol ∧ g.tol ≤ 20000) := ⟨_, rfl⟩
  obtain ⟨b3, hb3⟩ : ∃ b, b = decide (0 ≤ g.most ∧ g.most ≤ 20) := ⟨_, rfl⟩
  rw [goal_and, ← hb1, ← hb2, ← hb3] at hr
  have H1 := Lib.hid hb1; have H2 := Lib.hid hb2; have H3 := Lib.hid hb3; have HR := Lib.hid hr
  clear hb1 hb2 hb3 hr
  go_enter Tryz.func69, Tryz.ntmps69
  unfold GoalD.val
  go_wp2_with fail
  obtain ⟨wA, hA⟩ : ∃ wA, wA = w.alloc (.cells #[.int .i64 g.t.a, .int .i64 g.t.b, .int .i64 g.t.c, .int .i64 g.t.d, .int .i64 g.t.e, .int .i64 g.tol, .int .i64 g.most] 46) := ⟨_, rfl⟩
  rw [← hA]
  have BA := Box.alloc w [.int .i64 g.t.a, .int .i64 g.t.b, .int .i64 g.t.c, .int .i64 g.t.d, .int .i64 g.t.e, .int .i64 g.tol, .int .i64 g.most] 46 _ rfl
  have HBA := Lib.hid (belowA w (.cells #[.int .i64 g.t.a, .int .i64 g.t.b, .int .i64 g.t.c, .int .i64 g.t.d, .int .i64 g.t.e, .int .i64 g.tol, .int .i64 g.most] 46))
  rw [← hA] at BA HBA
  clear hA
  have c5 := BA.at' 5 _ rfl
  have c6 := BA.at' 6 _ rfl
  clear BA
  go_wp2_with fail
  refine (ValidSound_any _ g.t _ H1.out).mono ?_
  rintro e w1 ⟨rfl, hw1⟩
  have k5 := cellB hw1 c5
  have k6 := cellB hw1 c6
  have HW := Lib.hid (HBA.out.trans (hw1.mono HBA.out.size))
  clear c5 c6 hw1
  cases b1
  · skip
    go_wp2
    go_ret
    exact ⟨by rw [HR.out]; rfl, HW.out⟩
  · skip
    go_wp2_with fail
    refine (within_any _ g.tol 0 20000 _ H2.out).mono ?_
    rintro e w2 ⟨rfl, rfl⟩
    cases b2
    · skip
      go_wp2
      go_ret
      exact ⟨by rw [HR.out]; rfl, HW.out⟩
    · skip
      go_wp2_with fail
      refine (within_any _ g.most 0 20 _ H3.out).mono ?_
      rintro e w2 ⟨rfl, rfl⟩
      cases b3
      · skip
        go_wp2
        go_ret
        exact ⟨by rw [HR.out]; rfl, HW.out⟩
      · skip
        go_wp2
        go_ret
        exact ⟨by rw [HR.out]; rfl, HW.out⟩
set_option maxHeartbeats 1000000 in
theorem l10Goal_any (r : Bool) (q o : Nat) (g : GoalD) (w : World) (hi : GoalIn w q o g) (hr : r = decide (goalOk g)) :
    Calls Tryz.prog 58 #[.pointer (some ⟨q, o, none⟩)] w fun e w' => e = .returned (.bool r) ∧ Below w.heap.size w w' := by
  obtain ⟨b1, hb1⟩ : ∃ b, b = decide (sndOk g.t) := ⟨_, rfl⟩
  obtain ⟨b2, hb2⟩ : ∃ b, b = decide (0 ≤ g.tol ∧ g.tol ≤ 20000) := ⟨_, rfl⟩
  obtain ⟨b3, hb3⟩ : ∃ b, b = decide (0 ≤ g.most ∧ g.most ≤ 20) := ⟨_, rfl⟩
  rw [goal_and, ← hb1, ← hb2, ← hb3] at hr
  have H1 := Lib.hid hb1; have H2 := Lib.hid hb2; have H3 := Lib.hid hb3; have HR := Lib.hid hr
  clear hb1 hb2 hb3 hr
  have HI := Lib.hid hi
  have c5 := hi.c5
  have c6 := hi.c6
  clear hi
  go_enter Tryz.func58, Tryz.ntmps58
  go_wp2_with fail
  refine (l04Ok_any _ q o g.t _ (HI.out.snd.mono (Below.refl _ _)) H1.out).mono ?_
  rintro e w1 ⟨rfl, hw1⟩
  have k5 := cellB hw1 c5
  have k6 := cellB hw1 c6
  have HW := Lib.hid hw1
  clear c5 c6 hw1
  cases b1
  · skip
    go_wp2
    go_ret
    exact ⟨by rw [HR.out]; rfl, HW.out⟩
  · skip
    go_wp2_with fail
    refine (l00In_any _ g.tol 0 20000 _ H2.out).mono ?_
    rintro e w2 ⟨rfl, rfl⟩
    cases b2
    · skip
      go_wp2
      go_ret
      exact ⟨by rw [HR.out]; rfl, HW.out⟩
    · skip
      go_wp2_with fail
      refine (l00In_any _ g.most 0 20 _ H3.out).mono ?_
      rintro e w2 ⟨rfl, rfl⟩
      cases b3
      · skip
        go_wp2
        go_ret
        exact ⟨by rw [HR.out]; rfl, HW.out⟩
      · skip
        go_wp2
        go_ret
        exact ⟨by rw [HR.out]; rfl, HW.out⟩

end Go.Proofs.YtenedpboehkmjaaGreat
