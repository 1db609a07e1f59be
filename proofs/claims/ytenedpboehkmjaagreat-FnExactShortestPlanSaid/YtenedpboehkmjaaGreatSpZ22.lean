import Derived.Test.YtenedpboehkmjaaGreatSpZ21
/- The program's search for a plan: contracts of tooLow, isPlan. -/
set_option linter.unusedSimpArgs false
set_option linter.unnecessarySimpa false
set_option linter.unusedVariables false
set_option maxRecDepth 100000
namespace Go.Proofs.YtenedpboehkmjaaGreat
open Go.RowKit

/-- The cells of the program's search. -/
def fC (vz vg vb : Value) (nm : ByteArray) (vp : Value) (g : GoalD) (vl vs : Value) (total : Int) (first : Bool) (cnt : Int) (found : Value) (left : Nat) (sp : Bool) : List Value :=
  [.int .i64 (left : Int), .bool sp, vz, vg, vb, .string nm, vp, .int .i64 g.t.a, .int .i64 g.t.b, .int .i64 g.t.c, .int .i64 g.t.d, .int .i64 g.t.e, .int .i64 g.tol, .int .i64 g.most, vl, vs, .int .i64 total, .bool first, .int .i64 cnt, found]

set_option maxHeartbeats 4000000 in
theorem tooLow_any (p0 : Nat) (vz vg vb : Value) (x : ModD) (vp : Value) (p : PrfD) (g : GoalD) (vl vs : Value) (total : Int) (first : Bool) (cnt : Int) (found : Value) (left : Nat) (sp : Bool) (u : List Int) (w : World) (hE : EnvI w vz vg vb x vp p g) (B : Box w p0 (fC vz vg vb p.name vp g vl vs total first cnt found left sp)) (hI : Ints w vs u) (hl : x.zones.length ≤ u.length) (hrm : inRoom p x.zones (stF u)) :
    Calls Tryz.prog 55 #[ptr p0 0] w fun e w' => e = .returned (.bool (lowK x p g u 5)) ∧ Below w.heap.size w w' := by
  have HE := Lib.hid hE
  obtain ⟨hz, ⟨az, cz, rfl⟩, ⟨ag, cg, rfl⟩, ⟨ab, cb, rfl⟩, ⟨ap, cp, rfl⟩⟩ := hE.form
  have HZ := Lib.hid hz
  have HI := Lib.hid hI
  obtain ⟨aS, cS, rfl, _⟩ := id hI
  have HRM := Lib.hid hrm
  have hl1 := hE.zo.1.1
  have HB := Lib.hid B
  have c2 := B.at' 2 _ rfl
  have c3 := B.at' 3 _ rfl
  have c4 := B.at' 4 _ rfl
  have c5 := B.at' 5 _ rfl
  have c6 := B.at' 6 _ rfl
  have c15 := B.at' 15 _ rfl
  have l0 := B.lt
  clear hE hz hI hrm B
  unfold ptr
  go_enter Tryz.func55, Tryz.ntmps55
  go_wp2_with fail
  refine wp_region_ord [(0, true), (1, true), (2, true), (3, true), (4, true), (5, true), (6, true), (7, true), (8, true), (9, true), (10, true), (11, true), (12, true), (13, true), (14, true), (15, true), (16, true), (20, true), (17, false), (18, false), (19, true)] (none) (by kernel_rfl) (by kernel_rfl) ?_
  (repeat (with_reducible refine wpOrd_soft (fun K hK => ?_); simp only [List.getElem?_toArray, List.getElem?_cons_zero, List.getElem?_cons_succ]; first | (go_simp; refine hK _ ?_) | (simp only [undef]; go_simp; refine hK _ ?_); clear hK K))
  (with_reducible refine wpOrd_hard ?_; simp only [List.getElem?_toArray, List.getElem?_cons_zero, List.getElem?_cons_succ])
  go_wp2_with fail
  have hbd : Below w.heap.size w w.drew := (Below.refl _ _).drew
  refine (turned_any _ p _ x.zones _ u _ (HE.out.ip.mono hbd) (Ints.mono HZ.out hbd) (Ints.mono HI.out hbd) HE.out.okp HE.out.zo hl (room_20 HRM.out)).mono ?_
  rintro e w1 ⟨a1, c1, rfl, hr1, hb1⟩
  have HR1 := Lib.hid (rdTurn hr1 rfl)
  have hb1 : Below w.heap.size w w1 := undrew hb1
  have HB1 := Lib.hid hb1
  clear hr1 hb1 hbd
  have HOKT := Lib.hid (turn_ok HE.out.okp hl1 HRM.out)
  go_wp2_with fail
  refine ⟨grown_of_below HB1.out, ?_⟩
  (repeat (with_reducible refine wpOrd_soft (fun K hK => ?_); simp only [List.getElem?_toArray, List.getElem?_cons_zero, List.getElem?_cons_succ]; first | (go_simp; refine hK _ ?_) | (simp only [undef]; go_simp; refine hK _ ?_); clear hK K))
  (with_reducible refine wpOrd_hard ?_; simp only [List.getElem?_toArray, List.getElem?_cons_zero, List.getElem?_cons_succ])
  go_wp2_with fail
  refine (rawPartials_any _ _ x (turnP p x.zones (stF u)) _ (HE.out.im.mono HB1.out) HR1.out HE.out.okm HOKT.out (zo_turn HE.out.zo)).mono ?_
  rintro e w2 ⟨v2, rfl, ho2, hb2⟩
  have HI2 := Lib.hid (show Ints w2 v2 (rawS x p u) from ho2.rd)
  have HRL := Lib.hid (rawS_len x p u)
  have hrl5 : (rawV x (turnP p x.zones (stF u))) = rawS x p u := rfl
  rw [hrl5] at ho2
  obtain ⟨a2, k2, rfl⟩ := ho2.form
  have HB2 := Lib.hid (HB1.out.trans (hb2.mono HB1.out.size))
  have HBX := Lib.hid (HB.out.mono HB2.out)
  clear ho2 hb2 hrl5 c2 c3 c4 c5 c6 c15 l0
  go_wp2_with fail
  refine ⟨grown_of_below HB2.out, ?_⟩
  (repeat (with_reducible refine wpOrd_soft (fun K hK => ?_); simp only [List.getElem?_toArray, List.getElem?_cons_zero, List.getElem?_cons_succ]; first | (go_simp; refine hK _ ?_) | (simp only [undef]; go_simp; refine hK _ ?_); clear hK K))
  (with_reducible refine wpOrd_nil ?_); refine NoPanic.normal ?_
  go_wp2_with fail
  go_loopw [3, 4, 25] (fun _ _ kv wr => ∃ k : Nat, k ≤ 5 ∧ kv = .int .i64 (k : Int) ∧ lowK x p g u k = false ∧ Below w2.heap.size w2 wr) (fun _ _ kv _ => 5 - (intOf kv).toNat)
  case atStart => exact ⟨0, Nat.zero_le _, by go_num, rfl, Below.refl _ _⟩
  case round =>
    obtain ⟨k, hk, rfl, hlk, hb⟩ := hrel
    have HLK := Lib.hid hlk
    have HBK := Lib.hid hb
    have hz := hb.size
    clear hb hlk
    by_cases hk5 : k < 5
    · have hkr : k < (rawS x p u).length := by rw [HRL.out]; exact hk5
      have hkrI : (k : Int) < ((rawS x p u).length : Int) := by omega
      obtain ⟨b8, o8, rfl, c8⟩ := (Ints.mono HI2.out HBK.out).cells (by rw [List.length_map, HRL.out]; omega)
      have d8 := c8 k (.int .i64 ((rawS x p u).getD k 0)) (by rw [List.getElem?_map, List.getElem?_eq_getElem hkr, List.getD_eq_getElem?_getD, List.getElem?_eq_getElem hkr]; rfl)
      obtain ⟨f, hf⟩ : ∃ f, f = (rawS x p u).getD k 0 := ⟨_, rfl⟩
      rw [← hf] at d8
      have HKN := Lib.hid (show lowK x p g u (k + 1) = lowB g k f by
        show (lowK x p g u k || lowB g k ((rawS x p u).getD k 0)) = _
        rw [HLK.out, hf]; rfl)
      have BK := HBX.out.mono HBK.out
      have y7 := BK.at' 7 _ rfl
      have y8 := BK.at' 8 _ rfl
      have y9 := BK.at' 9 _ rfl
      have y10 := BK.at' 10 _ rfl
      have y11 := BK.at' 11 _ rfl
      have y12 := BK.at' 12 _ rfl
      have y13 := BK.at' 13 _ rfl
      have yl := BK.lt
      have hkw : IntKind.i64.wrap ((k : Int) + 1) = (k : Int) + 1 := IntWalk.i64_in _ (by omega)
      clear c8 hf BK
      obtain ⟨bl, hbl⟩ : ∃ bl, bl = lowB g k f := ⟨_, rfl⟩
      have HBL := Lib.hid hbl
      clear hbl
      go_wp2_with fail
      refine (isTooLow_any bl g k f _ HE.out.okg hk5 HBL.out).mono ?_
      rintro e w8 ⟨rfl, hb8⟩
      have HB8 := Lib.hid (HBK.out.trans (hb8.mono hz))
      clear hb8 y7 y8 y9 y10 y11 y12 y13 yl d8
      cases bl
      · go_wp2
        go_roundw
        case rel => exact ⟨k + 1, by omega, by go_num, by rw [HKN.out, ← HBL.out], HB8.out⟩
        case measure => simp [intOf]; omega
      · have HX := Lib.hid (show lowK x p g u 5 = true from (lowK_iff x p g u 5).2 (by
          obtain ⟨i, hi, h⟩ := (lowK_iff x p g u (k + 1)).1 (by rw [HKN.out, ← HBL.out])
          exact ⟨i, by omega, h⟩))
        go_wp2
        go_ret
        exact ⟨by rw [HX.out]; rfl, HB2.out.trans (HB8.out.mono HB2.out.size)⟩
    · obtain rfl : k = 5 := by omega
      have hrl := HRL.out
      go_wp2
      go_ret
      exact ⟨by rw [HLK.out]; rfl, HB2.out.trans (HBK.out.mono HB2.out.size)⟩
end Go.Proofs.YtenedpboehkmjaaGreat
/- The program's search for a plan: contracts of isPlan, isTried, done, node. -/
set_option linter.unusedSimpArgs false
set_option linter.unnecessarySimpa false
set_option linter.unusedVariables false
set_option maxRecDepth 100000
namespace Go.Proofs.YtenedpboehkmjaaGreat
open Go.RowKit

theorem nodeP_yes (p0 n : Nat) (sp : Bool) (rest : List Value) (w : World) (h : Box w p0 (.int .i64 ((n + 1 : Nat) : Int) :: .bool sp :: rest)) (hn : n ≤ 20000) :
    Calls Tryz.prog 54 #[.pointer (some ⟨p0, 0, none⟩)] w fun e w' => e = .returned (.bool true) ∧ w' = w.setCell ⟨p0, 0, none⟩ (.int .i64 (n : Int)) := by
  have c0 := h.at' 0 _ rfl
  have f0 := h.fr 0
  have l0 := h.lt
  go_enter Tryz.func54, Tryz.ntmps54
  go_wp2
  go_ret
  exact ⟨rfl, rfl⟩
theorem nodeP_no (p0 : Nat) (sp : Bool) (rest : List Value) (w : World) (h : Box w p0 (.int .i64 0 :: .bool sp :: rest)) :
    Calls Tryz.prog 54 #[.pointer (some ⟨p0, 0, none⟩)] w fun e w' => e = .returned (.bool false) ∧ w' = w.setCell ⟨p0, 1, none⟩ (.bool true) := by
  have c0 := h.at' 0 _ rfl
  have c1 := h.at' 1 _ rfl
  have f1 := h.fr 1
  have l0 := h.lt
  go_enter Tryz.func54, Tryz.ntmps54
  go_wp2
  go_ret
  exact ⟨rfl, rfl⟩
set_option maxHeartbeats 1000000 in
theorem isTried_any (r : Bool) (p0 z n cap : Nat) (s : Int) (a : Option Addr) (vz vg vb : Value) (vp : Value) (nm : ByteArray) (g : GoalD) (vl : Value) (total : Int) (first : Bool) (cnt : Int) (found : Value) (left : Nat) (sp : Bool) (w : World) (B : Box w p0 (fC vz vg vb nm vp g vl (.slice a n cap) total first cnt found left sp)) (ht : 0 ≤ total) (hn : n ≤ 100) (hr : r = true ↔ (s ≤ total ∧ (z + 1 < n ∨ s = total))) :
    Calls Tryz.prog 53 #[ptr p0 0, .int .i64 (z : Int), .int .i64 s] w fun e w' => e = .returned (.bool r) ∧ w' = w := by
  have c15 := B.at' 15 _ rfl
  have c16 := B.at' 16 _ rfl
  have l0 := B.lt
  have HR := Lib.hid hr
  have w1' : IntKind.i64.wrap ((n : Int) - 1) = (n : Int) - 1 := IntWalk.i64_in _ (by omega)
  have e0 : decide (total < 0) = false := decide_eq_false (by omega)
  clear B hr
  unfold ptr
  by_cases g1 : s ≤ total
  · have e1 : decide (s ≤ total) = true := decide_eq_true g1
    by_cases g2 : z + 1 < n
    · have e2 : decide ((z : Int) < (n : Int) - 1) = true := decide_eq_true (by omega)
      have HX := Lib.hid (show r = true from HR.out.2 ⟨g1, .inl g2⟩)
      clear g1 g2
      go_enter Tryz.func53, Tryz.ntmps53
      go_wp2
      go_ret
      exact ⟨by rw [HX.out]; rfl, rfl⟩
    · have e2 : decide ((z : Int) < (n : Int) - 1) = false := decide_eq_false (by omega)
      by_cases g3 : s = total
      · have e3 : (s == total) = true := by rw [beq_iff_eq]; exact g3
        have HX := Lib.hid (show r = true from HR.out.2 ⟨g1, .inr g3⟩)
        clear g1 g2 g3
        go_enter Tryz.func53, Tryz.ntmps53
        go_wp2
        go_ret
        exact ⟨by rw [HX.out]; rfl, rfl⟩
      · have e3 : (s == total) = false := beq_eq_false_iff_ne.2 g3
        have HX := Lib.hid (show r = false by cases r; rfl; exact absurd (HR.out.1 rfl).2 (by rintro (h | h); exact g2 h; exact g3 h))
        clear g1 g2 g3
        go_enter Tryz.func53, Tryz.ntmps53
        go_wp2
        go_ret
        exact ⟨by rw [HX.out]; rfl, rfl⟩
  · have e1 : decide (s ≤ total) = false := decide_eq_false g1
    have HX := Lib.hid (show r = false by cases r; rfl; exact absurd (HR.out.1 rfl).1 g1)
    clear g1
    go_enter Tryz.func53, Tryz.ntmps53
    go_wp2
    go_ret
    exact ⟨by rw [HX.out]; rfl, rfl⟩
set_option maxHeartbeats 1000000 in
theorem doneC_any (p0 : Nat) (vz vg vb : Value) (vp : Value) (nm : ByteArray) (g : GoalD) (vl vs : Value) (total : Int) (fnd : Bool) (found : Value) (left : Nat) (sp : Bool) (w : World) (B : Box w p0 (fC vz vg vb nm vp g vl vs total true (if fnd then 1 else 0) found left sp)) :
    Calls Tryz.prog 31 #[ptr p0 0] w fun e w' => e = .returned (.bool (sp || fnd)) ∧ w' = w := by
  have c1 := B.at' 1 _ rfl
  have c17 := B.at' 17 _ rfl
  have c18 := B.at' 18 _ rfl
  have l0 := B.lt
  clear B
  unfold ptr
  cases sp
  · cases fnd
    all_goals
      simp only [if_true, Bool.false_eq_true, if_false] at c18
      go_enter Tryz.func31, Tryz.ntmps31
      go_wp2
      go_ret
      exact ⟨rfl, rfl⟩
  · go_enter Tryz.func31, Tryz.ntmps31
    go_wp2
    go_ret
    exact ⟨rfl, rfl⟩

set_option maxHeartbeats 8000000 in
theorem isPlan_any (p0 : Nat) (vz vg vb : Value) (x : ModD) (vp : Value) (p : PrfD) (g : GoalD) (vl vs : Value) (total : Int) (first : Bool) (cnt : Int) (found : Value) (left : Nat) (sp : Bool) (u : List Int) (w : World) (hE : EnvI w vz vg vb x vp p g) (B : Box w p0 (fC vz vg vb p.name vp g vl vs total first cnt found left sp)) (hI : Ints w vs u) (hl : x.zones.length ≤ u.length) (hrm : inRoom p x.zones (stF u)) :
    Calls Tryz.prog 51 #[ptr p0 0] w fun e w' => e = .returned (.bool (decide (planP x p g u))) ∧ Below w.heap.size w w' := by
  have HE := Lib.hid hE
  obtain ⟨hz, ⟨az, cz, rfl⟩, ⟨ag, cg, rfl⟩, ⟨ab, cb, rfl⟩, ⟨ap, cp, rfl⟩⟩ := hE.form
  have HI := Lib.hid hI
  obtain ⟨aS, cS, rfl, _⟩ := id hI
  have HRM := Lib.hid hrm
  have HB := Lib.hid B
  have c2 := B.at' 2 _ rfl
  have c3 := B.at' 3 _ rfl
  have c4 := B.at' 4 _ rfl
  have c5 := B.at' 5 _ rfl
  have c6 := B.at' 6 _ rfl
  have c15 := B.at' 15 _ rfl
  have l0 := B.lt
  obtain ⟨s, hs⟩ : ∃ s, s = sOf (rawS x p u) := ⟨_, rfl⟩
  have HS := Lib.hid hs
  have HSA := Lib.hid (fun w' h1 h2 => soundAfter_any (.slice az x.zones.length cz) (.slice ag x.weights.length cg) (.slice ab x.base.length cb) x (.slice ap p.rings.length cp) p g (.slice aS u.length cS) u w' h1 h2 hl HRM.out)
  rw [← hs] at HSA
  clear hE hz hI hrm B hs
  unfold ptr
  go_enter Tryz.func51, Tryz.ntmps51
  go_wp2_with fail
  refine wp_region_T 0 0 19 (by kernel_rfl) rfl ?_
  obtain ⟨W0, hW⟩ : ∃ W0, W0 = w.drew := ⟨_, rfl⟩
  rw [← hW]
  have hWb : Below w.heap.size w W0 := by rw [hW]; exact (Below.refl _ _).drew
  have HBW0 := Lib.hid hWb
  have hz0 := hWb.size
  replace c2 := cellB hWb c2
  replace c3 := cellB hWb c3
  replace c4 := cellB hWb c4
  replace c5 := cellB hWb c5
  replace c6 := cellB hWb c6
  replace c15 := cellB hWb c15
  replace l0 : p0 < W0.heap.size := by omega
  have n1 : ∀ o y, (extT W0 0 0 y).cell? ⟨p0, o, none⟩ = W0.cell? ⟨p0, o, none⟩ := fun o y => cell?_extT l0 (.inr (Nat.zero_le _))
  clear hW hWb
  (with_reducible refine wpT_soft 0 (by kernel_rfl) (Touch.refl _ _ _) (fun K hK => ?_)); simp only [List.getElem?_toArray, List.getElem?_cons_zero, List.getElem?_cons_succ]; (first | (go_simp; refine hK _ ?_) | (simp only [undef]; go_simp; refine hK _ ?_)); clear hK K; (with_reducible refine wpT_soft 1 (by kernel_rfl) (Touch.refl _ _ _) (fun K hK => ?_)); simp only [List.getElem?_toArray, List.getElem?_cons_zero, List.getElem?_cons_succ]; (first | (go_simp; refine hK _ ?_) | (simp only [undef]; go_simp; refine hK _ ?_)); clear hK K; (with_reducible refine wpT_soft 2 (by kernel_rfl) (Touch.refl _ _ _) (fun K hK => ?_)); simp only [List.getElem?_toArray, List.getElem?_cons_zero, List.getElem?_cons_succ]; (first | (go_simp; refine hK _ ?_) | (simp only [undef]; go_simp; refine hK _ ?_)); clear hK K; (with_reducible refine wpT_soft 3 (by kernel_rfl) (Touch.refl _ _ _) (fun K hK => ?_)); simp only [List.getElem?_toArray, List.getElem?_cons_zero, List.getElem?_cons_succ]; (first | (go_simp; refine hK _ ?_) | (simp only [undef]; go_simp; refine hK _ ?_)); clear hK K; (with_reducible refine wpT_soft 4 (by kernel_rfl) (Touch.refl _ _ _) (fun K hK => ?_)); simp only [List.getElem?_toArray, List.getElem?_cons_zero, List.getElem?_cons_succ]; (first | (go_simp; refine hK _ ?_) | (simp only [undef]; go_simp; refine hK _ ?_)); clear hK K; (with_reducible refine wpT_soft 5 (by kernel_rfl) (Touch.refl _ _ _) (fun K hK => ?_)); simp only [List.getElem?_toArray, List.getElem?_cons_zero, List.getElem?_cons_succ]; (first | (go_simp; refine hK _ ?_) | (simp only [undef]; go_simp; refine hK _ ?_)); clear hK K; (with_reducible refine wpT_soft 6 (by kernel_rfl) (Touch.refl _ _ _) (fun K hK => ?_)); simp only [List.getElem?_toArray, List.getElem?_cons_zero, List.getElem?_cons_succ]; (first | (go_simp; refine hK _ ?_) | (simp only [undef]; go_simp; refine hK _ ?_)); clear hK K; (with_reducible refine wpT_soft 7 (by kernel_rfl) (Touch.refl _ _ _) (fun K hK => ?_)); simp only [List.getElem?_toArray, List.getElem?_cons_zero, List.getElem?_cons_succ]; (first | (go_simp; refine hK _ ?_) | (simp only [undef]; go_simp; refine hK _ ?_)); clear hK K; (with_reducible refine wpT_soft 8 (by kernel_rfl) (Touch.refl _ _ _) (fun K hK => ?_)); simp only [List.getElem?_toArray, List.getElem?_cons_zero, List.getElem?_cons_succ]; (first | (go_simp; refine hK _ ?_) | (simp only [undef]; go_simp; refine hK _ ?_)); clear hK K; (with_reducible refine wpT_soft 9 (by kernel_rfl) (Touch.refl _ _ _) (fun K hK => ?_)); simp only [List.getElem?_toArray, List.getElem?_cons_zero, List.getElem?_cons_succ]; (first | (go_simp; refine hK _ ?_) | (simp only [undef]; go_simp; refine hK _ ?_)); clear hK K; (with_reducible refine wpT_soft 10 (by kernel_rfl) (Touch.refl _ _ _) (fun K hK => ?_)); simp only [List.getElem?_toArray, List.getElem?_cons_zero, List.getElem?_cons_succ]; (first | (go_simp; refine hK _ ?_) | (simp only [undef]; go_simp; refine hK _ ?_)); clear hK K; (with_reducible refine wpT_soft 11 (by kernel_rfl) (Touch.refl _ _ _) (fun K hK => ?_)); simp only [List.getElem?_toArray, List.getElem?_cons_zero, List.getElem?_cons_succ]; (first | (go_simp; refine hK _ ?_) | (simp only [undef]; go_simp; refine hK _ ?_)); clear hK K
  clear n1
  (with_reducible refine wpT_two 12 16 (by kernel_rfl) ?_ ?_) <;> simp only [List.getElem?_toArray, List.getElem?_cons_zero, List.getElem?_cons_succ]
  · go_wp2_with fail
    refine (HSA.out _ (HE.out.mono HBW0.out) (Ints.mono HI.out HBW0.out)).mono ?_
    rintro e w4 ⟨rfl, hb4⟩
    unfold sndV
    have tt : Touch 0 0 W0 w4 := (Touch.refl _ _ _).step hb4 (Nat.le_refl _)
    have hz4 := hb4.size
    clear hb4
    go_wp2_with fail
    refine ⟨tt, ?_⟩
    (with_reducible refine wpT_soft 13 (by kernel_rfl) (tt) (fun K hK => ?_)); simp only [List.getElem?_toArray, List.getElem?_cons_zero, List.getElem?_cons_succ]; (first | (go_simp; refine hK _ ?_) | (simp only [undef]; go_simp; refine hK _ ?_)); clear hK K; (with_reducible refine wpT_soft 14 (by kernel_rfl) (tt) (fun K hK => ?_)); simp only [List.getElem?_toArray, List.getElem?_cons_zero, List.getElem?_cons_succ]; (first | (go_simp; refine hK _ ?_) | (simp only [undef]; go_simp; refine hK _ ?_)); clear hK K; (with_reducible refine wpT_soft 15 (by kernel_rfl) (tt) (fun K hK => ?_)); simp only [List.getElem?_toArray, List.getElem?_cons_zero, List.getElem?_cons_succ]; (first | (go_simp; refine hK _ ?_) | (simp only [undef]; go_simp; refine hK _ ?_)); clear hK K
    (with_reducible refine wpT_one 16 (by kernel_rfl) ?_); simp only [List.getElem?_toArray, List.getElem?_cons_zero, List.getElem?_cons_succ]
    go_wp2_with fail
    refine ⟨tt.alloc _, ?_⟩
    have B5 : Box (w4.alloc (.cells #[.int .i64 0, .int .i64 0, .int .i64 0, .int .i64 0, .int .i64 0] 44)) w4.heap.size [.int .i64 0, .int .i64 0, .int .i64 0, .int .i64 0, .int .i64 0] := Box.alloc w4 _ _ _ rfl
    have t5 := tt.alloc (.cells #[.int .i64 0, .int .i64 0, .int .i64 0, .int .i64 0, .int .i64 0] 44)
    obtain ⟨w5, hw5⟩ : ∃ w5, w5 = w4.alloc (.cells #[.int .i64 0, .int .i64 0, .int .i64 0, .int .i64 0, .int .i64 0] 44) := ⟨_, rfl⟩
    rw [← hw5] at B5 t5 ⊢
    clear hw5 tt
    have hbl := B5.lt
    have b0 := B5.at' 0 _ rfl
    have b1 := B5.at' 1 _ rfl
    have b2 := B5.at' 2 _ rfl
    have b3 := B5.at' 3 _ rfl
    have b4 := B5.at' 4 _ rfl
    have f0 := B5.fr 0
    have f1 := B5.fr 1
    have f2 := B5.fr 2
    have f3 := B5.fr 3
    have f4 := B5.fr 4
    (with_reducible refine wpT_one 17 (by kernel_rfl) ?_); simp only [List.getElem?_toArray, List.getElem?_cons_zero, List.getElem?_cons_succ]
    go_wp2_with fail
    have ts : Touch 0 0 W0 (((((w5.setCell ⟨w4.heap.size, 0, none⟩ (.int .i64 s.a)).setCell ⟨w4.heap.size, 1, none⟩ (.int .i64 s.b)).setCell ⟨w4.heap.size, 2, none⟩ (.int .i64 s.c)).setCell ⟨w4.heap.size, 3, none⟩ (.int .i64 s.d)).setCell ⟨w4.heap.size, 4, none⟩ (.int .i64 s.e)) := ((((t5.setNew (p := ⟨w4.heap.size, 0, none⟩) (by simp only; omega) _).setNew (p := ⟨w4.heap.size, 1, none⟩) (by simp only; omega) _).setNew (p := ⟨w4.heap.size, 2, none⟩) (by simp only; omega) _).setNew (p := ⟨w4.heap.size, 3, none⟩) (by simp only; omega) _).setNew (p := ⟨w4.heap.size, 4, none⟩) (by simp only; omega) _
    refine ⟨ts, ?_⟩
    (with_reducible refine wpT_soft 18 (by kernel_rfl) (ts) (fun K hK => ?_)); simp only [List.getElem?_toArray, List.getElem?_cons_zero, List.getElem?_cons_succ]; (first | (go_simp; refine hK _ ?_) | (simp only [undef]; go_simp; refine hK _ ?_)); clear hK K
    ((with_reducible refine wpT_done (by kernel_rfl) ?_ _); refine NoPanic.normal ?_)
    have B6 := ((((B5.set (.int .i64 s.a) (j := 0) (by simp)).set (.int .i64 s.b) (j := 1) (by simp)).set (.int .i64 s.c) (j := 2) (by simp)).set (.int .i64 s.d) (j := 3) (by simp)).set (.int .i64 s.e) (j := 4) (by simp)
    simp only [List.set_cons_zero, List.set_cons_succ] at B6
    obtain ⟨w6, hw6⟩ : ∃ w6, w6 = ((((w5.setCell ⟨w4.heap.size, 0, none⟩ (.int .i64 s.a)).setCell ⟨w4.heap.size, 1, none⟩ (.int .i64 s.b)).setCell ⟨w4.heap.size, 2, none⟩ (.int .i64 s.c)).setCell ⟨w4.heap.size, 3, none⟩ (.int .i64 s.d)).setCell ⟨w4.heap.size, 4, none⟩ (.int .i64 s.e) := ⟨_, rfl⟩
    rw [← hw6] at B6 ts ⊢
    have HBQ := Lib.hid (show Below w.heap.size w w6 from HBW0.out.trans ⟨ts.os, ts.tape, ts.output, ts.size, fun k hk => ts.block k (by have := HBW0.out.size; omega) (.inr (Nat.zero_le _))⟩)
    clear hw6 ts t5 b0 b1 b2 b3 b4 f0 f1 f2 f3 f4 B5 hbl
    have BX := HB.out.mono HBQ.out
    have y7 := BX.at' 7 _ rfl
    have y8 := BX.at' 8 _ rfl
    have y9 := BX.at' 9 _ rfl
    have y10 := BX.at' 10 _ rfl
    have y11 := BX.at' 11 _ rfl
    have y12 := BX.at' 12 _ rfl
    have yl := BX.lt
    have x0 := B6.at' 0 _ rfl
    have x1 := B6.at' 1 _ rfl
    have x2 := B6.at' 2 _ rfl
    have x3 := B6.at' 3 _ rfl
    have x4 := B6.at' 4 _ rfl
    have xl := B6.lt
    clear BX B6 c2 c3 c4 c5 c6 c15 l0
    obtain ⟨bk, hbk⟩ : ∃ bk, bk = decide (sndOk s) := ⟨_, rfl⟩
    rw [← hbk]
    have HBK := Lib.hid hbk
    clear hbk
    cases bk
    · have HX := Lib.hid (show decide (planP x p g u) = false from decide_eq_false (fun h => by have h1 := HBK.out.symm; rw [decide_eq_false_iff_not] at h1; exact h1 (by rw [HS.out]; exact h.1)))
      go_wp2_with fail
      go_quiet (fail)
      go_wp2
      go_ret
      exact ⟨by rw [HX.out]; rfl, HBQ.out.trans ((Below.drawN _).mono HBQ.out.size)⟩
    · have hok : sndOk s := of_decide_eq_true HBK.out.symm
      have HOK := Lib.hid hok
      have hzs := ((snd_iff s).1 hok).1
      have HZS := Lib.hid hzs
      have HSM := Lib.hid (devs_sm (goal_hz HE.out.okg) hzs)
      clear hok hzs
      go_wp2_with fail
      refine wp_region_ord [(0, true), (1, true), (2, true), (3, true), (4, true), (5, true), (6, true), (7, true), (10, true), (11, true), (12, true), (13, true), (14, true), (8, false), (9, false), (15, true), (16, true), (17, true)] (none) (by kernel_rfl) (by kernel_rfl) ?_
      (repeat (with_reducible refine wpOrd_soft (fun K hK => ?_); simp only [List.getElem?_toArray, List.getElem?_cons_zero, List.getElem?_cons_succ]; first | (go_simp; refine hK _ ?_) | (simp only [undef]; go_simp; refine hK _ ?_); clear hK K))
      (with_reducible refine wpOrd_hard ?_; simp only [List.getElem?_toArray, List.getElem?_cons_zero, List.getElem?_cons_succ])
      go_wp2_with fail
      refine (apart_any g.t s _ (goal_hz HE.out.okg) HZS.out).mono ?_
      rintro e w7 ⟨v7, rfl, ho7, hb7⟩
      have hb7 : Below w6.heap.size w6 w7 := undrew hb7
      obtain ⟨a7, k7, rfl⟩ := ho7.form
      have HO7 := Lib.hid ho7.rd
      go_wp2_with fail
      refine ⟨grown_of_below hb7, ?_⟩
      (repeat (with_reducible refine wpOrd_soft (fun K hK => ?_); simp only [List.getElem?_toArray, List.getElem?_cons_zero, List.getElem?_cons_succ]; first | (go_simp; refine hK _ ?_) | (simp only [undef]; go_simp; refine hK _ ?_); clear hK K))
      (with_reducible refine wpOrd_hard ?_; simp only [List.getElem?_toArray, List.getElem?_cons_zero, List.getElem?_cons_succ])
      go_wp2_with fail
      refine (greatest_any (great (devs g.t s)) _ (devs g.t s) _ HO7.out HSM.out (by simp [devs]) rfl).mono ?_
      rintro e w8 ⟨rfl, hq8⟩
      have hb8 : Below w6.heap.size w6 w8 := hb7.trans ((hq8.below _).mono hb7.size)
      obtain ⟨gr, hgr⟩ : ∃ gr, gr = great (devs g.t s) := ⟨_, rfl⟩
      rw [← hgr]
      have HX := Lib.hid (show decide (planP x p g u) = decide (gr ≤ g.tol) from by
        by_cases h : gr ≤ g.tol
        · rw [decide_eq_true h]; exact decide_eq_true ⟨by rw [← HS.out]; exact HOK.out, by rw [← HS.out, ← hgr]; exact h⟩
        · rw [decide_eq_false h]; exact decide_eq_false (fun h2 => h (by rw [hgr, HS.out]; exact h2.2)))
      clear hgr
      go_wp2_with fail
      refine ⟨grown_of_below hb8, ?_⟩
      (repeat (with_reducible refine wpOrd_soft (fun K hK => ?_); simp only [List.getElem?_toArray, List.getElem?_cons_zero, List.getElem?_cons_succ]; first | (go_simp; refine hK _ ?_) | (simp only [undef]; go_simp; refine hK _ ?_); clear hK K))
      (with_reducible refine wpOrd_nil ?_); refine NoPanic.normal ?_
      have HB8 := Lib.hid (HBQ.out.trans (hb8.mono HBQ.out.size))
      go_wp2
      go_ret
      exact ⟨by rw [HX.out]; rfl, HB8.out⟩
  · go_wp2_with fail
    have B5 : Box (W0.alloc (.cells #[.int .i64 0, .int .i64 0, .int .i64 0, .int .i64 0, .int .i64 0] 44)) W0.heap.size [.int .i64 0, .int .i64 0, .int .i64 0, .int .i64 0, .int .i64 0] := Box.alloc W0 _ _ _ rfl
    have tt := (Touch.refl 0 0 W0).alloc (.cells #[.int .i64 0, .int .i64 0, .int .i64 0, .int .i64 0, .int .i64 0] 44)
    have hba := belowA W0 (.cells #[.int .i64 0, .int .i64 0, .int .i64 0, .int .i64 0, .int .i64 0] 44)
    refine ⟨tt, ?_⟩
    obtain ⟨V, hV⟩ : ∃ V, V = W0.alloc (.cells #[.int .i64 0, .int .i64 0, .int .i64 0, .int .i64 0, .int .i64 0] 44) := ⟨_, rfl⟩
    rw [← hV] at B5 tt hba ⊢
    have hzV := hba.size
    clear hV
    (with_reducible refine wpT_one 12 (by kernel_rfl) ?_); simp only [List.getElem?_toArray, List.getElem?_cons_zero, List.getElem?_cons_succ]
    go_wp2_with fail
    have hbV := HBW0.out.trans (hba.mono HBW0.out.size)
    refine (HSA.out _ (HE.out.mono hbV) (Ints.mono HI.out hbV)).mono ?_
    rintro e w5 ⟨rfl, hb5⟩
    unfold sndV
    replace B5 := B5.mono hb5
    have t5 : Touch 0 0 W0 w5 := tt.step hb5 hba.size
    clear hb5 tt hba hbV
    go_wp2_with fail
    refine ⟨t5, ?_⟩
    (with_reducible refine wpT_soft 13 (by kernel_rfl) (t5) (fun K hK => ?_)); simp only [List.getElem?_toArray, List.getElem?_cons_zero, List.getElem?_cons_succ]; (first | (go_simp; refine hK _ ?_) | (simp only [undef]; go_simp; refine hK _ ?_)); clear hK K; (with_reducible refine wpT_soft 14 (by kernel_rfl) (t5) (fun K hK => ?_)); simp only [List.getElem?_toArray, List.getElem?_cons_zero, List.getElem?_cons_succ]; (first | (go_simp; refine hK _ ?_) | (simp only [undef]; go_simp; refine hK _ ?_)); clear hK K; (with_reducible refine wpT_soft 15 (by kernel_rfl) (t5) (fun K hK => ?_)); simp only [List.getElem?_toArray, List.getElem?_cons_zero, List.getElem?_cons_succ]; (first | (go_simp; refine hK _ ?_) | (simp only [undef]; go_simp; refine hK _ ?_)); clear hK K
    have hbl := B5.lt
    have b0 := B5.at' 0 _ rfl
    have b1 := B5.at' 1 _ rfl
    have b2 := B5.at' 2 _ rfl
    have b3 := B5.at' 3 _ rfl
    have b4 := B5.at' 4 _ rfl
    have f0 := B5.fr 0
    have f1 := B5.fr 1
    have f2 := B5.fr 2
    have f3 := B5.fr 3
    have f4 := B5.fr 4
    (with_reducible refine wpT_one 17 (by kernel_rfl) ?_); simp only [List.getElem?_toArray, List.getElem?_cons_zero, List.getElem?_cons_succ]
    go_wp2_with fail
    have ts : Touch 0 0 W0 (((((w5.setCell ⟨W0.heap.size, 0, none⟩ (.int .i64 s.a)).setCell ⟨W0.heap.size, 1, none⟩ (.int .i64 s.b)).setCell ⟨W0.heap.size, 2, none⟩ (.int .i64 s.c)).setCell ⟨W0.heap.size, 3, none⟩ (.int .i64 s.d)).setCell ⟨W0.heap.size, 4, none⟩ (.int .i64 s.e)) := ((((t5.setNew (p := ⟨W0.heap.size, 0, none⟩) (by simp only; omega) _).setNew (p := ⟨W0.heap.size, 1, none⟩) (by simp only; omega) _).setNew (p := ⟨W0.heap.size, 2, none⟩) (by simp only; omega) _).setNew (p := ⟨W0.heap.size, 3, none⟩) (by simp only; omega) _).setNew (p := ⟨W0.heap.size, 4, none⟩) (by simp only; omega) _
    refine ⟨ts, ?_⟩
    (with_reducible refine wpT_soft 18 (by kernel_rfl) (ts) (fun K hK => ?_)); simp only [List.getElem?_toArray, List.getElem?_cons_zero, List.getElem?_cons_succ]; (first | (go_simp; refine hK _ ?_) | (simp only [undef]; go_simp; refine hK _ ?_)); clear hK K
    ((with_reducible refine wpT_done (by kernel_rfl) ?_ _); refine NoPanic.normal ?_)
    have B6 := ((((B5.set (.int .i64 s.a) (j := 0) (by simp)).set (.int .i64 s.b) (j := 1) (by simp)).set (.int .i64 s.c) (j := 2) (by simp)).set (.int .i64 s.d) (j := 3) (by simp)).set (.int .i64 s.e) (j := 4) (by simp)
    simp only [List.set_cons_zero, List.set_cons_succ] at B6
    obtain ⟨w6, hw6⟩ : ∃ w6, w6 = ((((w5.setCell ⟨W0.heap.size, 0, none⟩ (.int .i64 s.a)).setCell ⟨W0.heap.size, 1, none⟩ (.int .i64 s.b)).setCell ⟨W0.heap.size, 2, none⟩ (.int .i64 s.c)).setCell ⟨W0.heap.size, 3, none⟩ (.int .i64 s.d)).setCell ⟨W0.heap.size, 4, none⟩ (.int .i64 s.e) := ⟨_, rfl⟩
    rw [← hw6] at B6 ts ⊢
    have HBQ := Lib.hid (show Below w.heap.size w w6 from HBW0.out.trans ⟨ts.os, ts.tape, ts.output, ts.size, fun k hk => ts.block k (by have := HBW0.out.size; omega) (.inr (Nat.zero_le _))⟩)
    clear hw6 ts t5 b0 b1 b2 b3 b4 f0 f1 f2 f3 f4 B5 hbl
    have BX := HB.out.mono HBQ.out
    have y7 := BX.at' 7 _ rfl
    have y8 := BX.at' 8 _ rfl
    have y9 := BX.at' 9 _ rfl
    have y10 := BX.at' 10 _ rfl
    have y11 := BX.at' 11 _ rfl
    have y12 := BX.at' 12 _ rfl
    have yl := BX.lt
    have x0 := B6.at' 0 _ rfl
    have x1 := B6.at' 1 _ rfl
    have x2 := B6.at' 2 _ rfl
    have x3 := B6.at' 3 _ rfl
    have x4 := B6.at' 4 _ rfl
    have xl := B6.lt
    clear BX B6 c2 c3 c4 c5 c6 c15 l0
    obtain ⟨bk, hbk⟩ : ∃ bk, bk = decide (sndOk s) := ⟨_, rfl⟩
    rw [← hbk]
    have HBK := Lib.hid hbk
    clear hbk
    cases bk
    · have HX := Lib.hid (show decide (planP x p g u) = false from decide_eq_false (fun h => by have h1 := HBK.out.symm; rw [decide_eq_false_iff_not] at h1; exact h1 (by rw [HS.out]; exact h.1)))
      go_wp2_with fail
      go_quiet (fail)
      go_wp2
      go_ret
      exact ⟨by rw [HX.out]; rfl, HBQ.out.trans ((Below.drawN _).mono HBQ.out.size)⟩
    · have hok : sndOk s := of_decide_eq_true HBK.out.symm
      have HOK := Lib.hid hok
      have hzs := ((snd_iff s).1 hok).1
      have HZS := Lib.hid hzs
      have HSM := Lib.hid (devs_sm (goal_hz HE.out.okg) hzs)
      clear hok hzs
      go_wp2_with fail
      refine wp_region_ord [(0, true), (1, true), (2, true), (3, true), (4, true), (5, true), (6, true), (7, true), (10, true), (11, true), (12, true), (13, true), (14, true), (8, false), (9, false), (15, true), (16, true), (17, true)] (none) (by kernel_rfl) (by kernel_rfl) ?_
      (repeat (with_reducible refine wpOrd_soft (fun K hK => ?_); simp only [List.getElem?_toArray, List.getElem?_cons_zero, List.getElem?_cons_succ]; first | (go_simp; refine hK _ ?_) | (simp only [undef]; go_simp; refine hK _ ?_); clear hK K))
      (with_reducible refine wpOrd_hard ?_; simp only [List.getElem?_toArray, List.getElem?_cons_zero, List.getElem?_cons_succ])
      go_wp2_with fail
      refine (apart_any g.t s _ (goal_hz HE.out.okg) HZS.out).mono ?_
      rintro e w7 ⟨v7, rfl, ho7, hb7⟩
      have hb7 : Below w6.heap.size w6 w7 := undrew hb7
      obtain ⟨a7, k7, rfl⟩ := ho7.form
      have HO7 := Lib.hid ho7.rd
      go_wp2_with fail
      refine ⟨grown_of_below hb7, ?_⟩
      (repeat (with_reducible refine wpOrd_soft (fun K hK => ?_); simp only [List.getElem?_toArray, List.getElem?_cons_zero, List.getElem?_cons_succ]; first | (go_simp; refine hK _ ?_) | (simp only [undef]; go_simp; refine hK _ ?_); clear hK K))
      (with_reducible refine wpOrd_hard ?_; simp only [List.getElem?_toArray, List.getElem?_cons_zero, List.getElem?_cons_succ])
      go_wp2_with fail
      refine (greatest_any (great (devs g.t s)) _ (devs g.t s) _ HO7.out HSM.out (by simp [devs]) rfl).mono ?_
      rintro e w8 ⟨rfl, hq8⟩
      have hb8 : Below w6.heap.size w6 w8 := hb7.trans ((hq8.below _).mono hb7.size)
      obtain ⟨gr, hgr⟩ : ∃ gr, gr = great (devs g.t s) := ⟨_, rfl⟩
      rw [← hgr]
      have HX := Lib.hid (show decide (planP x p g u) = decide (gr ≤ g.tol) from by
        by_cases h : gr ≤ g.tol
        · rw [decide_eq_true h]; exact decide_eq_true ⟨by rw [← HS.out]; exact HOK.out, by rw [← HS.out, ← hgr]; exact h⟩
        · rw [decide_eq_false h]; exact decide_eq_false (fun h2 => h (by rw [hgr, HS.out]; exact h2.2)))
      clear hgr
      go_wp2_with fail
      refine ⟨grown_of_below hb8, ?_⟩
      (repeat (with_reducible refine wpOrd_soft (fun K hK => ?_); simp only [List.getElem?_toArray, List.getElem?_cons_zero, List.getElem?_cons_succ]; first | (go_simp; refine hK _ ?_) | (simp only [undef]; go_simp; refine hK _ ?_); clear hK K))
      (with_reducible refine wpOrd_nil ?_); refine NoPanic.normal ?_
      have HB8 := Lib.hid (HBQ.out.trans (hb8.mono HBQ.out.size))
      go_wp2
      go_ret
      exact ⟨by rw [HX.out]; rfl, HB8.out⟩
end Go.Proofs.YtenedpboehkmjaaGreat
/- The program's search for a plan: contract of newCutter. -/
set_option linter.unusedSimpArgs false
set_option linter.unnecessarySimpa false
set_option linter.unusedVariables false
set_option maxRecDepth 100000
namespace Go.Proofs.YtenedpboehkmjaaGreat
open Go.RowKit

theorem ints_lt {w : World} {b o n c : Nat} {xs : List Int} (h : Ints w (.slice (some ⟨b, o, none⟩) n c) xs) (hl : 0 < xs.length) : b < w.heap.size := by
  obtain ⟨_, _, e, h1, h2, h3⟩ := h
  cases e
  obtain ⟨b', off, e, hc⟩ := h3 0 (.int .i64 xs[0]) (by simp [hl])
  cases e
  exact World.block_lt_of_cell? w _ hc
theorem ints_form {w : World} {a : Option Addr} {n c : Nat} {xs : List Int} (h : Ints w (.slice a n c) xs) (hl : 0 < xs.length) : ∃ b o, a = some ⟨b, o, none⟩ ∧ b < w.heap.size := by
  obtain ⟨_, _, e, h1, h2, h3⟩ := id h
  cases e
  obtain ⟨b', off, rfl, hc⟩ := h3 0 (.int .i64 xs[0]) (by simp [hl])
  exact ⟨b', off, rfl, ints_lt h hl⟩
/-- What newCutter leaves: the object in block p0, its steps in block ps. -/
structure NewC (w : World) (vz vg vb : Value) (x : ModD) (vp : Value) (p : PrfD) (g : GoalD) (m : Nat) (p0 ps : Nat) (vl : Value) (w' : World) : Prop where
  box : Box w' p0 (fC vz vg vb p.name vp g vl (.slice (some ⟨ps, 0, none⟩) x.zones.length x.zones.length) (-1) false 0 (.slice none 0 0) m false)
  st : Box w' ps ((padL x.zones.length []).map (Value.int .i64))
  lim : Ints w' vl (limL p x.zones g.most)
  off : Off vl p0 ps
  ge : w.heap.size ≤ p0 ∧ w.heap.size ≤ ps ∧ p0 ≠ ps
  bel : Below w.heap.size w w'
set_option maxHeartbeats 8000000 in
theorem newCutter_any (vz vg vb : Value) (x : ModD) (vp : Value) (p : PrfD) (g : GoalD) (m : Nat) (w : World) (hE : EnvI w vz vg vb x vp p g) :
    Calls Tryz.prog 29 #[.agg #[vz, vg, vb], .agg #[.string p.name, vp], g.val, .int .i64 (m : Int)] w fun e w' => ∃ p0 ps vl, e = .returned (ptr p0 0) ∧ NewC w vz vg vb x vp p g m p0 ps vl w' := by
  have HE := Lib.hid hE
  obtain ⟨hz, ⟨az, cz, rfl⟩, ⟨ag, cg, rfl⟩, ⟨ab, cb, rfl⟩, ⟨ap, cp, rfl⟩⟩ := hE.form
  have hl8 := hE.zo.1.2
  have hl1 := hE.zo.1.1
  obtain ⟨i0, hi, hi0, hi1, hi2⟩ := info_parts info_int
  clear hE hz
  unfold GoalD.val ptr
  go_enter Tryz.func29, Tryz.ntmps29
  go_wp2_with fail
  obtain ⟨wA, hA⟩ : ∃ wA, wA = ((w.alloc (.cells #[.slice az x.zones.length cz, .slice ag x.weights.length cg, .slice ab x.base.length cb] 38)).alloc (.cells #[.string p.name, .slice ap p.rings.length cp] 42)).alloc (.cells #[.int .i64 g.t.a, .int .i64 g.t.b, .int .i64 g.t.c, .int .i64 g.t.d, .int .i64 g.t.e, .int .i64 g.tol, .int .i64 g.most] 46) := ⟨_, rfl⟩
  rw [← hA]
  have HBA := Lib.hid (show Below w.heap.size w wA by rw [hA]; (repeat (first | with_reducible exact Below.refl _ _ | with_reducible exact hbw | (with_reducible refine Below.setCell ?_ ?_ _; rotate_left; · first | exact Nat.le_refl _ | omega | (simp; done) | (simp; omega)) | (with_reducible refine Below.alloc ?_ ?_ _; rotate_left; · first | exact Nat.le_refl _ | omega | (simp; done) | (simp; omega)) | with_reducible refine below_drewN ?_ _ | with_reducible refine Below.drew ?_)))
  have B1 : Box wA w.heap.size [.slice az x.zones.length cz, .slice ag x.weights.length cg, .slice ab x.base.length cb] := by
    rw [hA]; exact ((Box.alloc w _ _ _ rfl).mono (belowA _ _)).mono (belowA _ _)
  have B2 : Box wA (w.heap.size + 1) [.string p.name, .slice ap p.rings.length cp] := by
    rw [hA]; exact (Box.alloc _ _ _ _ (by simp)).mono (belowA _ _)
  have B3 : Box wA (w.heap.size + 1 + 1) [.int .i64 g.t.a, .int .i64 g.t.b, .int .i64 g.t.c, .int .i64 g.t.d, .int .i64 g.t.e, .int .i64 g.tol, .int .i64 g.most] := by
    rw [hA]; exact Box.alloc _ _ _ _ (by simp)
  clear hA
  refine wp_region_T 0 0 16 (by kernel_rfl) rfl ?_
  obtain ⟨W0, hW⟩ : ∃ W0, W0 = wA.drew := ⟨_, rfl⟩
  rw [← hW]
  have hWb : Below wA.heap.size wA W0 := by rw [hW]; exact (Below.refl _ _).drew
  have HBW0 := Lib.hid (HBA.out.trans (hWb.mono HBA.out.size))
  replace B1 := B1.mono hWb
  replace B2 := B2.mono hWb
  replace B3 := B3.mono hWb
  clear hW hWb
  have hz0 := HBW0.out.size
  have l1 := B1.lt
  have l2 := B2.lt
  have l3 := B3.lt
  have n1 : ∀ o y, (extT W0 0 0 y).cell? ⟨w.heap.size, o, none⟩ = W0.cell? ⟨w.heap.size, o, none⟩ := fun o y => cell?_extT l1 (.inr (Nat.zero_le _))
  have n2 : ∀ o y, (extT W0 0 0 y).cell? ⟨w.heap.size + 1, o, none⟩ = W0.cell? ⟨w.heap.size + 1, o, none⟩ := fun o y => cell?_extT l2 (.inr (Nat.zero_le _))
  have n3 : ∀ o y, (extT W0 0 0 y).cell? ⟨w.heap.size + 1 + 1, o, none⟩ = W0.cell? ⟨w.heap.size + 1 + 1, o, none⟩ := fun o y => cell?_extT l3 (.inr (Nat.zero_le _))
  have a0 := B1.at' 0 _ rfl
  have a1 := B1.at' 1 _ rfl
  have a2 := B1.at' 2 _ rfl
  have b0 := B2.at' 0 _ rfl
  have b1 := B2.at' 1 _ rfl
  have e0 := B3.at' 0 _ rfl
  have e1 := B3.at' 1 _ rfl
  have e2 := B3.at' 2 _ rfl
  have e3 := B3.at' 3 _ rfl
  have e4 := B3.at' 4 _ rfl
  have e5 := B3.at' 5 _ rfl
  have e6 := B3.at' 6 _ rfl
  clear B1 B2 B3
  (with_reducible refine wpT_soft 0 (by kernel_rfl) (Touch.refl _ _ _) (fun K hK => ?_)); simp only [List.getElem?_toArray, List.getElem?_cons_zero, List.getElem?_cons_succ]; (first | (go_simp; refine hK _ ?_) | (simp only [undef]; go_simp; refine hK _ ?_)); clear hK K; (with_reducible refine wpT_soft 1 (by kernel_rfl) (Touch.refl _ _ _) (fun K hK => ?_)); simp only [List.getElem?_toArray, List.getElem?_cons_zero, List.getElem?_cons_succ]; (first | (go_simp; refine hK _ ?_) | (simp only [undef]; go_simp; refine hK _ ?_)); clear hK K; (with_reducible refine wpT_soft 2 (by kernel_rfl) (Touch.refl _ _ _) (fun K hK => ?_)); simp only [List.getElem?_toArray, List.getElem?_cons_zero, List.getElem?_cons_succ]; (first | (go_simp; refine hK _ ?_) | (simp only [undef]; go_simp; refine hK _ ?_)); clear hK K; (with_reducible refine wpT_soft 3 (by kernel_rfl) (Touch.refl _ _ _) (fun K hK => ?_)); simp only [List.getElem?_toArray, List.getElem?_cons_zero, List.getElem?_cons_succ]; (first | (go_simp; refine hK _ ?_) | (simp only [undef]; go_simp; refine hK _ ?_)); clear hK K; (with_reducible refine wpT_soft 4 (by kernel_rfl) (Touch.refl _ _ _) (fun K hK => ?_)); simp only [List.getElem?_toArray, List.getElem?_cons_zero, List.getElem?_cons_succ]; (first | (go_simp; refine hK _ ?_) | (simp only [undef]; go_simp; refine hK _ ?_)); clear hK K; (with_reducible refine wpT_soft 5 (by kernel_rfl) (Touch.refl _ _ _) (fun K hK => ?_)); simp only [List.getElem?_toArray, List.getElem?_cons_zero, List.getElem?_cons_succ]; (first | (go_simp; refine hK _ ?_) | (simp only [undef]; go_simp; refine hK _ ?_)); clear hK K; (with_reducible refine wpT_soft 6 (by kernel_rfl) (Touch.refl _ _ _) (fun K hK => ?_)); simp only [List.getElem?_toArray, List.getElem?_cons_zero, List.getElem?_cons_succ]; (first | (go_simp; refine hK _ ?_) | (simp only [undef]; go_simp; refine hK _ ?_)); clear hK K; (with_reducible refine wpT_soft 7 (by kernel_rfl) (Touch.refl _ _ _) (fun K hK => ?_)); simp only [List.getElem?_toArray, List.getElem?_cons_zero, List.getElem?_cons_succ]; (first | (go_simp; refine hK _ ?_) | (simp only [undef]; go_simp; refine hK _ ?_)); clear hK K; (with_reducible refine wpT_soft 9 (by kernel_rfl) (Touch.refl _ _ _) (fun K hK => ?_)); simp only [List.getElem?_toArray, List.getElem?_cons_zero, List.getElem?_cons_succ]; (first | (go_simp; refine hK _ ?_) | (simp only [undef]; go_simp; refine hK _ ?_)); clear hK K; (with_reducible refine wpT_soft 10 (by kernel_rfl) (Touch.refl _ _ _) (fun K hK => ?_)); simp only [List.getElem?_toArray, List.getElem?_cons_zero, List.getElem?_cons_succ]; (first | (go_simp; refine hK _ ?_) | (simp only [undef]; go_simp; refine hK _ ?_)); clear hK K; (with_reducible refine wpT_soft 11 (by kernel_rfl) (Touch.refl _ _ _) (fun K hK => ?_)); simp only [List.getElem?_toArray, List.getElem?_cons_zero, List.getElem?_cons_succ]; (first | (go_simp; refine hK _ ?_) | (simp only [undef]; go_simp; refine hK _ ?_)); clear hK K
  clear n1 n2 n3 a0 a1 a2 b0 b1 e0 e1 e2 e3 e4 e5 e6
  have HGM := Lib.hid (show 0 ≤ g.most ∧ g.most ≤ 20 from HE.out.okg.2.2)
  (with_reducible refine wpT_two 8 12 (by kernel_rfl) ?_ ?_) <;> simp only [List.getElem?_toArray, List.getElem?_cons_zero, List.getElem?_cons_succ]
  · go_wp2_with fail
    refine (limits_any _ x _ p g _ (HE.out.im.mono HBW0.out) (HE.out.ip.mono HBW0.out) HE.out.hn HE.out.okp HE.out.zo HGM.out).mono ?_
    rintro e w4 ⟨a4, c4, rfl, hI4, hb4, hge4⟩
    have tt : Touch 0 0 W0 w4 := (Touch.refl _ _ _).step hb4 (Nat.le_refl _)
    have hlL := limL_len (x := p) (zs := x.zones) (most := g.most)
    obtain ⟨q4, o4, rfl, hq4⟩ := ints_form hI4 (by rw [hlL]; omega)
    have HI4 := Lib.hid hI4
    have HB4 := Lib.hid (HBW0.out.trans (hb4.mono HBW0.out.size))
    clear hI4 hb4 hlL
    go_wp2_with fail
    refine ⟨tt, ?_⟩
    (with_reducible refine wpT_one 12 (by kernel_rfl) ?_); simp only [List.getElem?_toArray, List.getElem?_cons_zero, List.getElem?_cons_succ]
    refine wpList_make_full _ rfl _ _ 22 rfl w4.heap.size 2 i0 (.int .i64 0) 1 Tryz.underlying22 hi hi0 hi1 _ _ _ _ x.zones.length rfl rfl rfl rfl (by rw [hi2]; omega) (by unfold maxLen; omega) (Nat.le_refl _) ?_
    intro w5 hown hgrow
    have hb5 : Below w4.heap.size w4 w5 := (Below.refl _ _).grown hgrow (Nat.le_refl _) (by simp)
    rw [Nat.mul_one] at hown
    have BX : Box w5 w4.heap.size ((padL x.zones.length []).map (Value.int .i64)) := by rw [padL_nil, List.map_replicate]; exact makeBox hown
    clear hown hgrow
    have t5 : Touch 0 0 W0 w5 := tt.step hb5 tt.size
    have HI5 := Lib.hid (Ints.mono HI4.out hb5)
    have HB5 := Lib.hid (HB4.out.trans (hb5.mono HB4.out.size))
    have hz5 := hb5.size
    have hl5 := BX.lt
    clear hb5 tt
    go_wp2_with fail
    refine ⟨t5, ?_⟩
    (with_reducible refine wpT_soft 13 (by kernel_rfl) (t5) (fun K hK => ?_)); simp only [List.getElem?_toArray, List.getElem?_cons_zero, List.getElem?_cons_succ]; (first | (go_simp; refine hK _ ?_) | (simp only [undef]; go_simp; refine hK _ ?_)); clear hK K
    (with_reducible refine wpT_one 14 (by kernel_rfl) ?_); simp only [List.getElem?_toArray, List.getElem?_cons_zero, List.getElem?_cons_succ]
    go_wp2_with fail
    refine ⟨t5.alloc _, ?_⟩
    (with_reducible refine wpT_soft 15 (by kernel_rfl) (t5.alloc _) (fun K hK => ?_)); simp only [List.getElem?_toArray, List.getElem?_cons_zero, List.getElem?_cons_succ]; (first | (go_simp; refine hK _ ?_) | (simp only [undef]; go_simp; refine hK _ ?_)); clear hK K
    ((with_reducible refine wpT_done (by kernel_rfl) ?_ _); refine NoPanic.normal ?_)
    go_wp2
    go_ret
    exact ⟨w5.heap.size, w4.heap.size, _, rfl, Box.alloc w5 _ _ _ rfl, BX.mono (belowA _ _), Ints.mono HI5.out (belowA _ _), ⟨fun e => by have e2 : q4 = w5.heap.size := Option.some.inj e; omega, fun e => by have e2 : q4 = w4.heap.size := Option.some.inj e; omega⟩, ⟨by have := HB5.out.size; omega, by have := HB4.out.size; omega, by omega⟩, HB5.out.trans ((belowA _ _).mono HB5.out.size)⟩
  · skip
    refine wpList_make_full _ rfl _ _ 22 rfl W0.heap.size 2 i0 (.int .i64 0) 1 Tryz.underlying22 hi hi0 hi1 _ _ _ _ x.zones.length rfl rfl rfl rfl (by rw [hi2]; omega) (by unfold maxLen; omega) (Nat.le_refl _) ?_
    intro w5 hown hgrow
    have hb5 : Below W0.heap.size W0 w5 := (Below.refl _ _).grown hgrow (Nat.le_refl _) (by simp)
    rw [Nat.mul_one] at hown
    have BX : Box w5 W0.heap.size ((padL x.zones.length []).map (Value.int .i64)) := by rw [padL_nil, List.map_replicate]; exact makeBox hown
    clear hown hgrow
    have t5 : Touch 0 0 W0 w5 := (Touch.refl _ _ _).step hb5 (Nat.le_refl _)
    have HB5 := Lib.hid (HBW0.out.trans (hb5.mono HBW0.out.size))
    have hz5 := hb5.size
    have hl5 := BX.lt
    clear hb5
    go_wp2_with fail
    refine ⟨t5, ?_⟩
    (with_reducible refine wpT_one 8 (by kernel_rfl) ?_); simp only [List.getElem?_toArray, List.getElem?_cons_zero, List.getElem?_cons_succ]
    go_wp2_with fail
    refine (limits_any _ x _ p g _ (HE.out.im.mono HB5.out) (HE.out.ip.mono HB5.out) HE.out.hn HE.out.okp HE.out.zo HGM.out).mono ?_
    rintro e w4 ⟨a4, c4, rfl, hI4, hb4, hge4⟩
    have t6 : Touch 0 0 W0 w4 := t5.step hb4 t5.size
    have hlL := limL_len (x := p) (zs := x.zones) (most := g.most)
    obtain ⟨q4, o4, rfl, hq4⟩ := ints_form hI4 (by rw [hlL]; omega)
    have hq5 := hge4 q4 o4 rfl
    have HI4 := Lib.hid hI4
    have HB4 := Lib.hid (HB5.out.trans (hb4.mono HB5.out.size))
    have BX4 := BX.mono hb4
    have hz4 := hb4.size
    clear hI4 hb4 hlL BX hge4 t5
    go_wp2_with fail
    refine ⟨t6, ?_⟩
    (with_reducible refine wpT_soft 13 (by kernel_rfl) (t6) (fun K hK => ?_)); simp only [List.getElem?_toArray, List.getElem?_cons_zero, List.getElem?_cons_succ]; (first | (go_simp; refine hK _ ?_) | (simp only [undef]; go_simp; refine hK _ ?_)); clear hK K
    (with_reducible refine wpT_one 14 (by kernel_rfl) ?_); simp only [List.getElem?_toArray, List.getElem?_cons_zero, List.getElem?_cons_succ]
    go_wp2_with fail
    refine ⟨t6.alloc _, ?_⟩
    (with_reducible refine wpT_soft 15 (by kernel_rfl) (t6.alloc _) (fun K hK => ?_)); simp only [List.getElem?_toArray, List.getElem?_cons_zero, List.getElem?_cons_succ]; (first | (go_simp; refine hK _ ?_) | (simp only [undef]; go_simp; refine hK _ ?_)); clear hK K
    ((with_reducible refine wpT_done (by kernel_rfl) ?_ _); refine NoPanic.normal ?_)
    go_wp2
    go_ret
    exact ⟨w4.heap.size, W0.heap.size, _, rfl, Box.alloc w4 _ _ _ rfl, BX4.mono (belowA _ _), Ints.mono HI4.out (belowA _ _), ⟨fun e => by have e2 : q4 = w4.heap.size := Option.some.inj e; omega, fun e => by have e2 : q4 = W0.heap.size := Option.some.inj e; omega⟩, ⟨by have := HB4.out.size; omega, hz0, by omega⟩, HB4.out.trans ((belowA _ _).mono HB4.out.size)⟩
end Go.Proofs.YtenedpboehkmjaaGreat
/- The program's search for a plan: contract of search. -/
set_option linter.unusedSimpArgs false
set_option linter.unnecessarySimpa false
set_option linter.unusedVariables false
set_option maxRecDepth 100000
namespace Go.Proofs.YtenedpboehkmjaaGreat
open Go.RowKit

theorem lowK_pad (x : ModD) (p : PrfD) (g : GoalD) (n : Nat) (st : List Int) : ∀ k, lowK x p g (padL n st) k = lowK x p g st k
  | 0 => rfl
  | k + 1 => by unfold lowK; rw [lowK_pad x p g n st k, rawS_pad]
theorem padL_zero {n : Nat} {st : List Int} (h : st.length < n) : padL n (st ++ [0]) = padL n st := by
  rw [← padL_back (v := 0) h, padL_again h]
/-- The program's search in memory: the object in block p0, its steps in block ps. -/
structure CO (w1 : World) (p0 ps : Nat) (vz vg vb : Value) (nm : ByteArray) (vp : Value) (g : GoalD) (vl : Value) (N : Nat) (total : Int) (cnt : Int) (found : Value) (left : Nat) (sp : Bool) (st : List Int) (w : World) : Prop where
  box : Box w p0 (fC vz vg vb nm vp g vl (.slice (some ⟨ps, 0, none⟩) N N) total true cnt found left sp)
  st : Box w ps ((padL N st).map (Value.int .i64))
  two : Two p0 ps w1 w
section
variable {w1 w w' : World} {p0 ps : Nat} {vz vg vb : Value} {nm : ByteArray} {vp : Value} {g : GoalD} {vl : Value} {N : Nat} {total : Int} {cnt : Int} {found : Value} {left : Nat} {sp : Bool} {st : List Int}
theorem CO.mono (h : CO w1 p0 ps vz vg vb nm vp g vl N total cnt found left sp st w) (hb : Below w.heap.size w w') : CO w1 p0 ps vz vg vb nm vp g vl N total cnt found left sp st w' :=
  ⟨h.box.mono hb, h.st.mono hb, h.two.step hb h.two.size⟩
theorem CO.setLeft (h : CO w1 p0 ps vz vg vb nm vp g vl N total cnt found left sp st w) (hne : p0 ≠ ps) (m : Nat) : CO w1 p0 ps vz vg vb nm vp g vl N total cnt found m sp st (w.setCell ⟨p0, 0, none⟩ (.int .i64 (m : Int))) :=
  ⟨h.box.set (.int .i64 (m : Int)) (j := 0) (by simp [fC]), h.st.two ((Two.refl p0 p0 w).setCell (a := ⟨p0, 0, none⟩) (.inl rfl) _) hne.symm hne.symm, h.two.setCell (a := ⟨p0, 0, none⟩) (.inl rfl) _⟩
theorem CO.setSpent (h : CO w1 p0 ps vz vg vb nm vp g vl N total cnt found left sp st w) (hne : p0 ≠ ps) : CO w1 p0 ps vz vg vb nm vp g vl N total cnt found left true st (w.setCell ⟨p0, 1, none⟩ (.bool true)) :=
  ⟨h.box.set (.bool true) (j := 1) (by simp [fC]), h.st.two ((Two.refl p0 p0 w).setCell (a := ⟨p0, 1, none⟩) (.inl rfl) _) hne.symm hne.symm, h.two.setCell (a := ⟨p0, 1, none⟩) (.inl rfl) _⟩
theorem CO.setCnt (h : CO w1 p0 ps vz vg vb nm vp g vl N total cnt found left sp st w) (hne : p0 ≠ ps) (c : Int) : CO w1 p0 ps vz vg vb nm vp g vl N total c found left sp st (w.setCell ⟨p0, 18, none⟩ (.int .i64 c)) :=
  ⟨h.box.set (.int .i64 c) (j := 18) (by simp [fC]), h.st.two ((Two.refl p0 p0 w).setCell (a := ⟨p0, 18, none⟩) (.inl rfl) _) hne.symm hne.symm, h.two.setCell (a := ⟨p0, 18, none⟩) (.inl rfl) _⟩
theorem CO.setFound (h : CO w1 p0 ps vz vg vb nm vp g vl N total cnt found left sp st w) (hne : p0 ≠ ps) (v : Value) : CO w1 p0 ps vz vg vb nm vp g vl N total cnt v left sp st (w.setCell ⟨p0, 19, none⟩ v) :=
  ⟨h.box.set v (j := 19) (by simp [fC]), h.st.two ((Two.refl p0 p0 w).setCell (a := ⟨p0, 19, none⟩) (.inl rfl) _) hne.symm hne.symm, h.two.setCell (a := ⟨p0, 19, none⟩) (.inl rfl) _⟩
theorem CO.setTotal (h : CO w1 p0 ps vz vg vb nm vp g vl N total cnt found left sp st w) (hne : p0 ≠ ps) (t : Int) : CO w1 p0 ps vz vg vb nm vp g vl N t cnt found left sp st (w.setCell ⟨p0, 16, none⟩ (.int .i64 t)) :=
  ⟨h.box.set (.int .i64 t) (j := 16) (by simp [fC]), h.st.two ((Two.refl p0 p0 w).setCell (a := ⟨p0, 16, none⟩) (.inl rfl) _) hne.symm hne.symm, h.two.setCell (a := ⟨p0, 16, none⟩) (.inl rfl) _⟩
theorem CO.step {v : Int} (h : CO w1 p0 ps vz vg vb nm vp g vl N total cnt found left sp (st ++ [v]) w) (hne : p0 ≠ ps) (hl : st.length < N) (u : Int) : CO w1 p0 ps vz vg vb nm vp g vl N total cnt found left sp (st ++ [u]) (w.setCell ⟨ps, st.length, none⟩ (.int .i64 u)) := by
  refine ⟨h.box.two ((Two.refl ps ps w).setCell (a := ⟨ps, st.length, none⟩) (.inl rfl) _) hne hne, ?_, h.two.setCell (a := ⟨ps, st.length, none⟩) (.inr rfl) _⟩
  have := h.st.set (j := st.length) (.int .i64 u) (by rw [List.length_map, padL_len (by rw [List.length_append, List.length_singleton]; omega)]; exact hl)
  rw [← List.map_set, padL_again hl] at this
  exact this
theorem CO.back {v : Int} (h : CO w1 p0 ps vz vg vb nm vp g vl N total cnt found left sp (st ++ [v]) w) (hne : p0 ≠ ps) (hl : st.length < N) : CO w1 p0 ps vz vg vb nm vp g vl N total cnt found left sp st (w.setCell ⟨ps, st.length, none⟩ (.int .i64 0)) := by
  have := h.step hne hl 0
  exact ⟨this.box, by rw [← padL_zero hl]; exact this.st, this.two⟩
theorem CO.pad (h : CO w1 p0 ps vz vg vb nm vp g vl N total cnt found left sp st w) (hl : st.length < N) : CO w1 p0 ps vz vg vb nm vp g vl N total cnt found left sp (st ++ [0]) w :=
  ⟨h.box, by rw [padL_zero hl]; exact h.st, h.two⟩
end
/-- What a search leaves of found: the plan, if there is one. -/
def FndI (p0 ps : Nat) (R : PRes) (cnt : Int) (vf : Value) (w : World) : Prop :=
  (R.found = false → cnt = 0 ∧ vf = .slice none 0 0) ∧ (R.found = true → cnt = 1 ∧ Ints w vf R.st ∧ Off vf p0 ps)
theorem FndI.two {p0 ps : Nat} {R : PRes} {cnt : Int} {vf : Value} {w w' : World} (h : FndI p0 ps R cnt vf w) (t : Two p0 ps w w') : FndI p0 ps R cnt vf w' :=
  ⟨h.1, fun e => ⟨(h.2 e).1, (h.2 e).2.1.two t (h.2 e).2.2, (h.2 e).2.2⟩⟩
def EndI (w1 : World) (p0 ps : Nat) (vz vg vb : Value) (nm : ByteArray) (vp : Value) (g : GoalD) (vl : Value) (N : Nat) (total : Int) (st : List Int) (R : PRes) (w : World) : Prop :=
  ∃ v cnt vf, CO w1 p0 ps vz vg vb nm vp g vl N total cnt vf R.left R.spent (st ++ [v]) w ∧ FndI p0 ps R cnt vf w
/-- What a search leaves. -/
def SchI (w1 : World) (p0 ps : Nat) (vz vg vb : Value) (nm : ByteArray) (vp : Value) (g : GoalD) (vl : Value) (N : Nat) (total : Int) (st : List Int) (R : PRes) (e : Ending) (w : World) : Prop :=
  e = .returned (.tuple #[]) ∧ ∃ cnt vf, CO w1 p0 ps vz vg vb nm vp g vl N total cnt vf R.left R.spent st w ∧ FndI p0 ps R cnt vf w
theorem EndI.back {w1 w : World} {p0 ps : Nat} {vz vg vb : Value} {nm : ByteArray} {vp : Value} {g : GoalD} {vl : Value} {N : Nat} {total : Int} {st : List Int} {R : PRes} (h : EndI w1 p0 ps vz vg vb nm vp g vl N total st R w) (hne : p0 ≠ ps) (hl : st.length < N) : SchI w1 p0 ps vz vg vb nm vp g vl N total st R (.returned (.tuple #[])) (w.setCell ⟨ps, st.length, none⟩ (.int .i64 0)) := by
  obtain ⟨v, cnt, vf, h1, h2⟩ := h
  exact ⟨rfl, cnt, vf, h1.back hne hl, h2.two ((Two.refl p0 ps w).setCell (a := ⟨ps, st.length, none⟩) (.inr rfl) _)⟩
theorem doneD_any (b : Bool) (p0 : Nat) (vz vg vb : Value) (vp : Value) (nm : ByteArray) (g : GoalD) (vl vs : Value) (total cnt : Int) (fnd : Bool) (found : Value) (left : Nat) (sp : Bool) (w : World) (B : Box w p0 (fC vz vg vb nm vp g vl vs total true cnt found left sp)) (hc : (fnd = false → cnt = 0) ∧ (fnd = true → cnt = 1)) (hb : b = (sp || fnd)) :
    Calls Tryz.prog 31 #[ptr p0 0] w fun e w' => e = .returned (.bool b) ∧ w' = w := by
  subst hb
  refine doneC_any p0 vz vg vb vp nm g vl vs total fnd found left sp w ?_
  cases fnd
  · rw [hc.1 rfl] at B; exact B
  · rw [hc.2 rfl] at B; exact B

set_option maxHeartbeats 8000000 in
theorem searchI_any (w0 w1 : World) (p0 ps : Nat) (vz vg vb : Value) (x : ModD) (vp : Value) (p : PrfD) (g : GoalD) (vl : Value) (lim : List Int) (total : Int) (hE : EnvI w0 vz vg vb x vp p g) (h01 : Below w0.heap.size w0 w1) (hge : w0.heap.size ≤ p0 ∧ w0.heap.size ≤ ps ∧ p0 ≠ ps) (hlt1 : p0 < w1.heap.size ∧ ps < w1.heap.size) (hr : Ints w1 vl lim) (hof : Off vl p0 ps) (hlim : lim = limL p x.zones g.most) (ht0 : 0 ≤ total) (ht1 : total ≤ 1000) :
    ∀ (d : Nat) (st : List Int) (left : Nat) (w : World), st.length + d = lim.length → stIn lim st → left ≤ 20000 → CO w1 p0 ps vz vg vb p.name vp g vl x.zones.length total 0 (.slice none 0 0) left false st w →
    Calls Tryz.prog 32 #[ptr p0 0, .int .i64 (st.length : Int), .int .i64 (sumL st)] w fun e w' => SchI w1 p0 ps vz vg vb p.name vp g vl x.zones.length total st (runP lim (lowP x p g) (planP x p g) total d st left) e w' := by
  have HE := Lib.hid hE
  have H01 := Lib.hid h01
  have HGE := Lib.hid hge
  have HR := Lib.hid hr
  have HOF := Lib.hid hof
  have HNE := Lib.hid hge.2.2
  have hll : lim.length = x.zones.length := by rw [hlim]; exact limL_len
  have HLL := Lib.hid hll
  have hN8 : lim.length ≤ 8 := by rw [hll]; exact hE.zo.1.2
  have hN1 : 1 ≤ lim.length := by rw [hll]; exact hE.zo.1.1
  have HLB := Lib.hid (show ∀ i, i < lim.length → 0 ≤ lim.getD i 0 ∧ lim.getD i 0 ≤ 20 from fun i hi => by
    rw [hlim, limL_at (by omega)]; have := limAt_bd (x := p) (zs := x.zones) (k := i) hE.okg.2.2.1; omega)
  have HRM := Lib.hid (show ∀ s, stIn lim s → inRoom p x.zones (stF s) from fun s h => stIn_room (by rw [← hlim]; exact h) hE.okg.2.2.1)
  have HEW := Lib.hid (show ∀ w, Two p0 ps w1 w → EnvI w vz vg vb x vp p g from fun w t => hE.mono (t.below h01 hge.1 hge.2.1 h01.size))
  obtain ⟨ar, cr, rfl, _⟩ := id hr
  obtain ⟨b9, o9, rfl, _⟩ := hr.cells (by rw [List.length_map]; omega)
  obtain ⟨low, hlow⟩ : ∃ low, low = lowP x p g := ⟨_, rfl⟩
  obtain ⟨plan, hplan⟩ : ∃ plan, plan = planP x p g := ⟨_, rfl⟩
  have HLOW := Lib.hid hlow; have HPLAN := Lib.hid hplan
  rw [← hlow, ← hplan]
  clear hE h01 hge hr hof hlim hll hlow hplan
  intro d
  induction d with
  | zero =>
    intro st left w hlen hin hleft hP
    have HP := Lib.hid hP
    have c15 := hP.box.at' 15 _ rfl
    have l0 := hP.box.lt
    have d0 : ((st.length : Int) == (x.zones.length : Int)) = true := by rw [beq_iff_eq]; have := HLL.out; omega
    have hst : st.length = x.zones.length := by have := HLL.out; omega
    have hpd : padL x.zones.length st = st := padL_full hst
    have HI := Lib.hid (show Ints w (.slice (some ⟨ps, 0, none⟩) x.zones.length x.zones.length) st from Ints.of_box (by have := hP.st; rw [hpd] at this; exact this) hst (Nat.le_refl _) (by unfold maxLen; omega))
    have HRI := Lib.hid (HRM.out st hin)
    have HST := Lib.hid hst
    have HEw := Lib.hid (HEW.out w hP.two)
    have hx8 : x.zones.length ≤ 8 := by omega
    clear hlen hin hP hst hpd
    unfold ptr
    go_enter Tryz.func32, Tryz.ntmps32
    go_wp2_with fail
    refine (isPlan_any p0 vz vg vb x vp p g _ _ total true 0 (.slice none 0 0) left false st _ HEw.out HP.out.box HI.out (Nat.le_of_eq HST.out.symm) HRI.out).mono ?_
    rintro e w2 ⟨rfl, hb2⟩
    have HP2 := Lib.hid (HP.out.mono hb2)
    have HI2 := Lib.hid (Ints.mono HI.out hb2)
    clear hb2 c15 l0
    obtain ⟨bp, hbp⟩ : ∃ bp, bp = decide (planP x p g st) := ⟨_, rfl⟩
    rw [← hbp]
    have hbp2 : bp = true ↔ plan st := by rw [HPLAN.out, hbp]; exact decide_eq_true_iff
    clear hbp
    cases bp
    rotate_left
    · have hpl : plan st := hbp2.1 rfl
      clear hbp2
      have E := Lib.hid (show runP lim low plan total 0 st left = ⟨true, st, left, false⟩ from runP_yes hpl)
      have c15 := HP2.out.box.at' 15 _ rfl
      have c18 := HP2.out.box.at' 18 _ rfl
      have l0 := HP2.out.box.lt
      clear hpl
      go_wp2_with fail
      refine (cloneInts_any _ st _ HI2.out (by have := HST.out; omega)).mono ?_
      rintro e w3 ⟨v3, rfl, ho3, hb3⟩
      have HP3 := Lib.hid (HP2.out.mono hb3)
      have hvo : Off v3 p0 ps := off_owns ho3.1 HP2.out.box.lt HP2.out.st.lt
      have HVO := Lib.hid hvo
      have HVI := Lib.hid (show Ints w3 v3 st from ho3.rd)
      obtain ⟨a3, k3, rfl⟩ := ho3.form
      have f19 := HP3.out.box.fr 19
      have f18 := HP3.out.box.fr 18
      have b18 := HP3.out.box.at' 18 _ rfl
      have b19 := HP3.out.box.at' 19 _ rfl
      have l3 := HP3.out.box.lt
      clear hvo ho3 hb3 c15 c18 l0
      have HP4 := Lib.hid ((HP3.out.setFound HNE.out (.slice a3 st.length k3)).setCnt HNE.out 1)
      have HT4 := Lib.hid (((Two.refl p0 ps w3).setCell (a := ⟨p0, 19, none⟩) (.inl rfl) (.slice a3 st.length k3)).setCell (a := ⟨p0, 18, none⟩) (.inl rfl) (.int .i64 1))
      go_wp2
      ((try simp only [Exit.inBlock, Exit.then]); refine bodyPost_ret (results_none rfl _ _ _) rfl ?_)
      rw [E.out]
      exact ⟨rfl, 1, _, HP4.out, (fun h => by cases h), fun _ => ⟨rfl, HVI.out.two HT4.out HVO.out, HVO.out⟩⟩
    · have hpl : ¬ plan st := fun h => by cases hbp2.2 h
      clear hbp2
      have E := Lib.hid (show runP lim low plan total 0 st left = ⟨false, st, left, false⟩ from runP_no hpl)
      clear hpl
      go_wp2
      ((try simp only [Exit.inBlock, Exit.then]); refine bodyPost_ret (results_none rfl _ _ _) rfl ?_)
      rw [E.out]
      exact ⟨rfl, 0, _, HP2.out, fun _ => ⟨rfl, rfl⟩, (fun h => by cases h)⟩
  | succ d ih =>
    intro st left w hlen hin hleft hP
    obtain ⟨R, hR⟩ : ∃ R, R = runP lim low plan total (d + 1) st left := ⟨_, rfl⟩
    obtain ⟨L, hL⟩ : ∃ L : Nat, lim.getD st.length 0 = (L : Int) := Int.eq_ofNat_of_zero_le (HLB.out st.length (by omega)).1
    have hL20 : L ≤ 20 := by have := (HLB.out st.length (by omega)).2; omega
    have HLz := Lib.hid hL
    have HR0 := Lib.hid (show tryP (runP lim low plan total d) (isTry lim total st) low st (L + 1) 0 left = R by rw [hR, show runP lim low plan total (d + 1) st left = tryP (runP lim low plan total d) (isTry lim total st) low st ((lim.getD st.length 0).toNat + 1) 0 left from rfl, HLz.out, Int.toNat_natCast])
    rw [← hR]
    clear hR hL
    have c15 := hP.box.at' 15 _ rfl
    have l0 := hP.box.lt
    have hk2 : st.length < lim.length := by omega
    have hkz : st.length < x.zones.length := by have := HLL.out; omega
    have HLN := Lib.hid hkz
    have d0 : ((st.length : Int) == (x.zones.length : Int)) = false := beq_eq_false_iff_ne.2 (by omega)
    have HL := Lib.hid hlen
    have HIN0 := Lib.hid hin
    have HSB := Lib.hid (show 0 ≤ sumL st ∧ sumL st ≤ 160 from by
      have h1 := sumL_bd (xs := st) (fun i hi => ⟨(hin i hi).1, Int.le_trans (hin i hi).2 (HLB.out i (by omega)).2⟩) st.length (Nat.le_refl _)
      rw [List.take_length] at h1
      omega)
    have hx8 : x.zones.length ≤ 8 := by have := HLL.out; omega
    clear hlen hin
    have HP := Lib.hid hP
    clear hP
    unfold ptr
    go_enter Tryz.func32, Tryz.ntmps32
    go_wp2_with fail
    clear c15 l0
    go_loopw [6] (fun i wr => ∃ j : Nat, j ≤ L + 1 ∧ i = .int .i64 (j : Int) ∧ ((∃ v left', left' ≤ left ∧ tryP (runP lim low plan total d) (isTry lim total st) low st (L + 1 - j) j left' = R ∧ CO w1 p0 ps vz vg vb p.name vp g (.slice (some ⟨b9, o9, none⟩) lim.length cr) x.zones.length total 0 (.slice none 0 0) left' false (st ++ [v]) wr) ∨ ((R.found = true ∨ R.spent = true) ∧ EndI w1 p0 ps vz vg vb p.name vp g (.slice (some ⟨b9, o9, none⟩) lim.length cr) x.zones.length total st R wr))) (fun i _ => L + 1 - (intOf i).toNat)
    case atStart => exact ⟨0, Nat.zero_le _, by go_num, .inl ⟨0, left, Nat.le_refl _, HR0.out, HP.out.pad HLN.out⟩⟩
    case round =>
      obtain ⟨j, hj, rfl, hst⟩ := hrel
      have HS := Lib.hid hst
      obtain ⟨cntW, vfW, leftW, spW, vW, hCW⟩ : ∃ cnt vf left' sp v, CO w1 p0 ps vz vg vb p.name vp g (.slice (some ⟨b9, o9, none⟩) lim.length cr) x.zones.length total cnt vf left' sp (st ++ [v]) wr := by
        rcases hst with ⟨v, l', _, _, h⟩ | ⟨_, v, c, f, h, _⟩
        · exact ⟨_, _, _, _, _, h⟩
        · exact ⟨_, _, _, _, _, h⟩
      clear hst
      have HCW := Lib.hid hCW
      have c14 := hCW.box.at' 14 _ rfl
      have l0 := hCW.box.lt
      obtain ⟨_, _, e9, cl⟩ := (HR.out.two hCW.two HOF.out).cells (by simp; omega)
      cases e9
      have d9 := cl st.length (.int .i64 (L : Int)) (by
        rw [List.getElem?_map, List.getElem?_eq_getElem hk2]
        have := HLz.out
        rw [List.getD_eq_getElem?_getD, List.getElem?_eq_getElem hk2] at this
        simp only [Option.getD_some] at this
        rw [this]; rfl)
      have i9 : (st.length : Int) < (lim.length : Int) := by omega
      clear cl hCW
      by_cases hlt : j ≤ L
      · have hltI : (j : Int) ≤ (L : Int) := by omega
        have hn1 : L + 1 - j = L + 1 - (j + 1) + 1 := by omega
        have hsb := HSB.out
        have w1' : IntKind.i64.wrap (sumL st + (j : Int)) = sumL st + (j : Int) := IntWalk.i64_in _ (by omega)
        have w3' : IntKind.i64.wrap ((j : Int) + 1) = (j : Int) + 1 := IntWalk.i64_in _ (by omega)
        clear hsb
        by_cases htr : isTry lim total st j
        · have HTR := Lib.hid htr
          clear htr
          go_wp2_with fail
          refine (isTried_any true p0 st.length x.zones.length x.zones.length (sumL st + (j : Int)) _ vz vg vb vp p.name g _ total true cntW vfW leftW spW _ HCW.out.box ht0 (by omega) (by rw [← HLL.out]; exact ⟨fun _ => HTR.out, fun _ => rfl⟩)).mono ?_
          rintro e w2 ⟨rfl, rfl⟩
          clear c14 l0 d9 i9
          go_wp2_with fail
          rcases HS.out with ⟨v, l', h1, h2, h3⟩ | ⟨hre, hEnd⟩
          · have HT := Lib.hid (show tryP (runP lim low plan total d) (isTry lim total st) low st (L + 1 - (j + 1) + 1) j l' = R by rw [← hn1]; exact h2)
            have HC := Lib.hid h3
            clear h2 h3 HS HCW
            refine (doneD_any false p0 vz vg vb vp p.name g _ _ total 0 false _ l' false _ HC.out.box ⟨fun _ => rfl, (fun h => by cases h)⟩ rfl).mono ?_
            rintro e w3 ⟨rfl, rfl⟩
            have l3 := HC.out.box.lt
            rcases l' with _ | m
            · go_wp2_with fail
              refine (nodeP_no p0 false _ _ HC.out.box).mono ?_
              rintro e w3 ⟨rfl, hw3⟩
              have hC3 := HC.out.setSpent HNE.out
              rw [← hw3] at hC3
              have E : R = ⟨false, st, 0, true⟩ := by rw [← HT.out]; exact tryP_spent HTR.out rfl
              have hEnd : EndI w1 p0 ps vz vg vb p.name vp g (.slice (some ⟨b9, o9, none⟩) lim.length cr) x.zones.length total st R w3 := by
                rw [E]; exact ⟨v, 0, _, hC3, fun _ => ⟨rfl, rfl⟩, (fun h => by cases h)⟩
              clear hw3 hC3 E l3
              have HEND := Lib.hid hEnd
              obtain ⟨vE, cE, fE, hCE, _⟩ := hEnd
              have z15 := hCE.box.at' 15 _ rfl
              have z0 := hCE.box.lt
              have y0 := hCE.st.lt
              have y1 := hCE.st.at' st.length (.int .i64 vE) (by rw [List.getElem?_map, show (padL x.zones.length (st ++ [vE]))[st.length]? = some vE by unfold padL; rw [List.append_assoc, List.getElem?_append_right (Nat.le_refl _), Nat.sub_self]; rfl]; rfl)
              have y2 := hCE.st.fr st.length
              clear hCE
              go_wp2
              go_end0
              exact HEND.out.back HNE.out HLN.out
            · go_wp2_with fail
              refine (nodeP_yes p0 m false _ _ HC.out.box (by omega)).mono ?_
              rintro e w3 ⟨rfl, hw3⟩
              have hC3 := HC.out.setLeft HNE.out m
              rw [← hw3] at hC3
              have HC3 := Lib.hid hC3
              have z15 := hC3.box.at' 15 _ rfl
              have z0 := hC3.box.lt
              have y0 := hC3.st.lt
              have y1 := hC3.st.at' st.length (.int .i64 v) (by rw [List.getElem?_map, show (padL x.zones.length (st ++ [v]))[st.length]? = some v by unfold padL; rw [List.append_assoc, List.getElem?_append_right (Nat.le_refl _), Nat.sub_self]; rfl]; rfl)
              have y2 := hC3.st.fr st.length
              clear hw3 l3 hC3
              obtain ⟨st', hst'⟩ : ∃ st', st' = st ++ [(j : Int)] := ⟨_, rfl⟩
              have hC4 := HC3.out.step HNE.out hkz (j : Int)
              rw [← hst'] at hC4
              have HC4 := Lib.hid hC4
              have HST := Lib.hid hst'
              have hl' : st'.length = st.length + 1 := by rw [hst']; simp
              have HL' := Lib.hid hl'
              have HIN4 := Lib.hid (show stIn lim st' by rw [hst']; exact stIn_snoc HIN0.out (by rw [HLz.out]; omega))
              have HSUM := Lib.hid (show sumL st' = sumL st + (j : Int) by rw [hst']; exact sumL_snoc _ _)
              clear hC4 hst' hl'
              go_wp2_with fail
              obtain ⟨w4, hw4⟩ : ∃ w4, w4 = w3.setCell ⟨ps, st.length, none⟩ (.int .i64 (j : Int)) := ⟨_, rfl⟩
              rw [← hw4] at HC4 ⊢
              clear hw4 z15 z0 y0 y1 y2 HC3 HC
              have hpl : (padL x.zones.length st').length = x.zones.length := padL_len (by rw [HL'.out]; exact hkz)
              obtain ⟨bl, hbl⟩ : ∃ bl, bl = lowK x p g (padL x.zones.length st') 5 := ⟨_, rfl⟩
              have HBL := Lib.hid (show bl = true ↔ low st' by rw [hbl, lowK_pad, HLOW.out]; exact lowK_five x p g st')
              refine (tooLow_any p0 vz vg vb x vp p g _ _ total true 0 (.slice none 0 0) m false (padL x.zones.length st') _ (HEW.out _ HC4.out.two) HC4.out.box (Ints.of_box HC4.out.st hpl (Nat.le_refl _) (by unfold maxLen; omega)) (Nat.le_of_eq hpl.symm) (by rw [padL_stF]; exact HRM.out st' HIN4.out)).mono ?_
              rw [← hbl]
              clear hbl hpl
              rintro e w5 ⟨rfl, hb5⟩
              have HC5 := Lib.hid (HC4.out.mono hb5)
              clear hb5
              cases bl
              · have HNL := Lib.hid (show ¬ low st' from fun h => by cases HBL.out.2 h)
                have IH := ih st' m w5 (by rw [HL'.out]; have := HL.out; omega) HIN4.out (by omega) HC5.out
                rw [HSUM.out, show ((st'.length : Nat) : Int) = (st.length : Int) + 1 by rw [HL'.out]; rfl] at IH
                unfold ptr at IH
                have w4' : IntKind.i64.wrap ((st.length : Int) + 1) = (st.length : Int) + 1 := IntWalk.i64_in _ (by omega)
                have HIH := Lib.hid IH
                clear IH
                go_wp2_with fail
                refine HIH.out.mono ?_
                rintro e w7 ⟨rfl, cnt, vf, hC7, hF7⟩
                have hok := runP_ok lim low plan total (fun i hi => (HLB.out i hi).1) d st' m (by rw [HL'.out]; have := HL.out; omega) HIN4.out
                obtain ⟨r, hr⟩ : ∃ r, r = runP lim low plan total d st' m := ⟨_, rfl⟩
                rw [← hr] at hC7 hF7 hok
                have HRr := Lib.hid (show r = runP lim low plan total d (st ++ [(j : Int)]) (m + 1 - 1) by rw [hr, HST.out]; rfl)
                rw [HST.out] at hC7
                have HC7 := Lib.hid hC7; have HF7 := Lib.hid hF7; have HOK := Lib.hid hok
                clear hr hC7 hF7 hok HIH
                go_wp2
                go_roundw
                case rel =>
                  refine ⟨j + 1, by omega, by go_num, ?_⟩
                  have nl : ¬ low (st ++ [(j : Int)]) := by rw [← HST.out]; exact HNL.out
                  cases hf : r.found
                  · obtain ⟨e1, e2⟩ := HF7.out.1 hf
                    subst e1 e2
                    cases hs : r.spent
                    · refine .inl ⟨j, r.left, by have := HOK.out.left; omega, ?_, by have := HC7.out; rw [hs] at this; exact this⟩
                      rw [← HT.out, tryP_next HTR.out (by omega) nl (by rw [← HRr.out]; exact hf) (by rw [← HRr.out]; exact hs), ← HRr.out]
                    · have E : R = ⟨false, st, r.left, true⟩ := by
                        rw [← HT.out, tryP_deep HTR.out (by omega) nl (by rw [← HRr.out]; exact hf) (by rw [← HRr.out]; exact hs), ← HRr.out]
                      refine .inr ⟨.inr (by rw [E]), ?_⟩
                      rw [E]
                      exact ⟨j, 0, _, by have := HC7.out; rw [hs] at this; exact this, fun _ => ⟨rfl, rfl⟩, (fun h => by cases h)⟩
                  · have E : R = r := by rw [← HT.out, HRr.out]; exact tryP_found HTR.out (by omega) nl (by rw [← HRr.out]; exact hf)
                    refine .inr ⟨.inl (by rw [E]; exact hf), ?_⟩
                    rw [E]
                    exact ⟨j, cnt, vf, HC7.out, HF7.out⟩
                case measure => simp [intOf]; omega
              · have E : R = ⟨false, st, m, false⟩ := by rw [← HT.out, tryP_low HTR.out (by omega) (by rw [← HST.out]; exact HBL.out.1 rfl)]; rfl
                have hEnd : EndI w1 p0 ps vz vg vb p.name vp g (.slice (some ⟨b9, o9, none⟩) lim.length cr) x.zones.length total st R w5 := by
                  rw [E]; exact ⟨j, 0, _, by have := HC5.out; rw [HST.out] at this; exact this, fun _ => ⟨rfl, rfl⟩, (fun h => by cases h)⟩
                clear E
                have HEND := Lib.hid hEnd
                obtain ⟨vE, cE, fE, hCE, _⟩ := hEnd
                have z15 := hCE.box.at' 15 _ rfl
                have z0 := hCE.box.lt
                have y0 := hCE.st.lt
                have y1 := hCE.st.at' st.length (.int .i64 vE) (by rw [List.getElem?_map, show (padL x.zones.length (st ++ [vE]))[st.length]? = some vE by unfold padL; rw [List.append_assoc, List.getElem?_append_right (Nat.le_refl _), Nat.sub_self]; rfl]; rfl)
                have y2 := hCE.st.fr st.length
                clear hCE
                go_wp2
                go_end0
                exact HEND.out.back HNE.out HLN.out
          · have HEN := Lib.hid hEnd
            obtain ⟨v, cnt, vf, hC, hF⟩ := hEnd
            have hsf : true = (R.spent || R.found) := by rcases hre with h | h <;> rw [h]; simp; rfl
            refine (doneD_any true p0 vz vg vb vp p.name g _ _ total cnt R.found vf R.left R.spent _ hC.box ⟨fun h => (hF.1 h).1, fun h => (hF.2 h).1⟩ hsf).mono ?_
            rintro e w3 ⟨rfl, rfl⟩
            have hEnd := HEN.out
            clear hC hF hsf hre HS HCW HEN
            have HEND := Lib.hid hEnd
            obtain ⟨vE, cE, fE, hCE, _⟩ := hEnd
            have z15 := hCE.box.at' 15 _ rfl
            have z0 := hCE.box.lt
            have y0 := hCE.st.lt
            have y1 := hCE.st.at' st.length (.int .i64 vE) (by rw [List.getElem?_map, show (padL x.zones.length (st ++ [vE]))[st.length]? = some vE by unfold padL; rw [List.append_assoc, List.getElem?_append_right (Nat.le_refl _), Nat.sub_self]; rfl]; rfl)
            have y2 := hCE.st.fr st.length
            clear hCE
            go_wp2
            go_end0
            exact HEND.out.back HNE.out HLN.out
        · have HTR := Lib.hid htr
          clear htr
          go_wp2_with fail
          refine (isTried_any false p0 st.length x.zones.length x.zones.length (sumL st + (j : Int)) _ vz vg vb vp p.name g _ total true cntW vfW leftW spW _ HCW.out.box ht0 (by omega) (by rw [← HLL.out]; exact ⟨(fun h => by cases h), fun h => absurd h HTR.out⟩)).mono ?_
          rintro e w2 ⟨rfl, rfl⟩
          go_wp2
          go_roundw
          case rel =>
            refine ⟨j + 1, by omega, by go_num, ?_⟩
            rcases HS.out with ⟨v, l', h1, h2, h3⟩ | h
            · exact .inl ⟨v, l', h1, by rw [hn1, tryP_skip HTR.out] at h2; exact h2, h3⟩
            · exact .inr h
          case measure => simp [intOf]; omega
      · obtain rfl : j = L + 1 := by omega
        have hltI : ¬ ((L + 1 : Nat) : Int) ≤ (L : Int) := by omega
        have hEnd : EndI w1 p0 ps vz vg vb p.name vp g (.slice (some ⟨b9, o9, none⟩) lim.length cr) x.zones.length total st R wr := by
          rcases HS.out with ⟨v, l', h1, h2, h3⟩ | h
          · rw [Nat.sub_self, tryP_end] at h2
            rw [← h2]
            exact ⟨v, 0, _, h3, fun _ => ⟨rfl, rfl⟩, (fun h => by cases h)⟩
          · exact h.2
        have HEND := Lib.hid hEnd
        obtain ⟨vE, cE, fE, hCE, _⟩ := hEnd
        have z15 := hCE.box.at' 15 _ rfl
        have z0 := hCE.box.lt
        have y0 := hCE.st.lt
        have y1 := hCE.st.at' st.length (.int .i64 vE) (by rw [List.getElem?_map, show (padL x.zones.length (st ++ [vE]))[st.length]? = some vE by unfold padL; rw [List.append_assoc, List.getElem?_append_right (Nat.le_refl _), Nat.sub_self]; rfl]; rfl)
        have y2 := hCE.st.fr st.length
        clear hCE
        go_wp2
        go_end0
        exact HEND.out.back HNE.out HLN.out
end Go.Proofs.YtenedpboehkmjaaGreat
