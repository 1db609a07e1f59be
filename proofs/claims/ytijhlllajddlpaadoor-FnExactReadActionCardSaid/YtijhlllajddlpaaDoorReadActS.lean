/- Both packages read an action. Contracts of ReadAction. -/
import Derived.Test.YtijhlllajddlpaaDoorReadActL
import Derived.Test.YtijhlllajddlpaaDoorReadListI
import Derived.Test.YtijhlllajddlpaaDoorBox
import Derived.Test.YtijhlllajddlpaaDoorReg2
import Derived.Test.YtijhlllajddlpaaDoorReg3
import Derived.Test.YtijhlllajddlpaaDoorKAct
set_option linter.unusedSimpArgs false
set_option linter.unnecessarySimpa false
set_option linter.unusedVariables false
set_option maxRecDepth 100000
namespace Go.Proofs.YtijhlllajddlpaaDoor
open Go.RowKit

theorem pairs_get : ∀ (j : Nat) (n : List Int), 2 * j + 1 < n.length → (pairs n)[j]? = some ⟨n.getD (2 * j) 0, n.getD (2 * j + 1) 0⟩
  | 0, a :: b :: r, _ => rfl
  | j + 1, a :: b :: r, h => by
    have := pairs_get j r (by simp only [List.length_cons] at h; omega)
    simp only [pairs, List.getElem?_cons_succ]
    rw [this, show 2 * (j + 1) = 2 * j + 1 + 1 by omega, show 2 * j + 1 + 1 + 1 = (2 * j + 1) + 1 + 1 by omega]
    simp only [List.getD_cons_succ]
  | _, [a], h => by simp at h
  | _, [], h => by simp at h
theorem lev_step {xs : List Int} (hs : shapeOk xs) {j : Nat} (h : 3 + 2 * j < xs.length) :
    ∃ h2 : 3 + 2 * j + 1 < xs.length, j < (actOf xs).levs.length ∧ (actOf xs).levs.take (j + 1) = (actOf xs).levs.take j ++ [⟨xs[3 + 2 * j], xs[3 + 2 * j + 1]⟩] := by
  have h2 : 3 + 2 * j + 1 < xs.length := by have := hs.2; omega
  refine ⟨h2, ?_⟩
  have e := pairs_get j (xs.drop 3) (by rw [List.length_drop]; omega)
  have hj : j < (pairs (xs.drop 3)).length := (List.getElem?_eq_some_iff.1 e).1
  have e2 := (List.getElem?_eq_some_iff.1 e).2
  refine ⟨hj, ?_⟩
  show (pairs (xs.drop 3)).take (j + 1) = _
  rw [List.take_succ_eq_append_getElem hj, e2]
  congr 3
  · rw [List.getD_eq_getElem?_getD, List.getElem?_drop, List.getElem?_eq_getElem (by omega)]; rfl
  · rw [List.getD_eq_getElem?_getD, List.getElem?_drop, show 3 + (2 * j + 1) = 3 + 2 * j + 1 by omega, List.getElem?_eq_getElem h2]; rfl
theorem own_zeroR (B E : Nat) (w : World) : OwnAct B E w (.agg #[.int .i64 0, .slice none 0 0, .int .i64 0, .int .i64 0]) ⟨0, [], 0, 0⟩ := ⟨_, rfl, owns_nil _ _ _ _, fun k hk => by simp [Value.ownBlock] at hk⟩



set_option maxHeartbeats 4000000 in
theorem specReadAction_any (s : ByteArray) (w : World) (hs : s.size ≤ 1048576) :
    Calls Tryd.prog 11 #[.string s] w fun e w' => ∃ v, e = .returned (.tuple #[v, .bool (rdB s)]) ∧ OwnAct w.heap.size w'.heap.size w' v (rdV s) ∧ Below w.heap.size w w' := by
  have HRL := Lib.hid fun w => specReadList_any s w hs
  clear hs
  go_enter Tryd.func11, Tryd.ntmps11
  go_wp2_with fail
  have B0 := Lib.hid (Box.alloc w [.int .i64 0, .slice none 0 0, .int .i64 0, .int .i64 0] 29 w.heap.size rfl)
  refine (HRL.out _).mono ?_
  rintro e w1 ⟨v, rfl, hi, hb1⟩
  have B0 := Lib.hid (B0.out.mono hb1)
  have HB1 := Lib.hid (Below.trans (belowA w (.cells #[.int .i64 0, .slice none 0 0, .int .i64 0, .int .i64 0] 29)) (hb1.mono (by simp)))
  have hz1 : w.heap.size < w1.heap.size := B0.out.lt
  obtain ⟨a, ca, rfl, hc1, hc2, _⟩ := id hi
  have HI := Lib.hid hi
  have hlen := rlV_len s
  clear hb1 hi
  cases hok : rlB s
  · have HR := Lib.hid (rd_no (s := s) (fun h => by rw [hok] at h; cases h.1))
    clear hok hc1 hc2
    have r0 := B0.out.at' 0 _ rfl
    have r1 := B0.out.at' 1 _ rfl
    have r2 := B0.out.at' 2 _ rfl
    have r3 := B0.out.at' 3 _ rfl
    have f0 := B0.out.fr 0
    have f1 := B0.out.fr 1
    have f2 := B0.out.fr 2
    have f3 := B0.out.fr 3
    have l0 := B0.out.lt
    go_wp2
    refine bodyPost_ret (v := .tuple #[.agg #[.int .i64 0, .slice none 0 0, .int .i64 0, .int .i64 0], .bool false]) (by simp [results, Tryd.results11, go_sem, r0, r1, r2, r3, f0, f1, f2, f3, l0]) rfl ⟨_, by rw [HR.out.1], by rw [HR.out.2]; exact own_zeroR _ _ _, ?_⟩
    have hbw := HB1.out
    (repeat (first | with_reducible exact Below.refl _ _ | with_reducible exact hbw | (with_reducible refine Below.setCell ?_ ?_ _; rotate_left; · first | exact Nat.le_refl _ | omega | (simp; done) | (simp; omega)) | (with_reducible refine Below.alloc ?_ ?_ _; rotate_left; · first | exact Nat.le_refl _ | omega | (simp; done) | (simp; omega)) | with_reducible refine below_drewN ?_ _ | with_reducible refine Below.drew ?_))
  by_cases hsh : shapeOk (rlV s)
  · skip
    have h3 : 3 ≤ (rlV s).length := hsh.1
    have d1 : decide (((rlV s).length : Int) < 3) = false := by simp; omega
    have d2 : decide ((rlV s).length < 3) = false := by simp; omega
    have t1 : ((rlV s).length : Int).tmod 2 = 1 := by rw [Int.tmod_eq_emod_of_nonneg (by omega)]; unfold shapeOk at hsh; omega
    have HSH := Lib.hid hsh
    obtain ⟨b, o, rfl, hx⟩ := HI.out.cells (by simp; omega)
    obtain ⟨xs, hxs⟩ : ∃ xs, xs = rlV s := ⟨_, rfl⟩
    rw [← hxs] at hx h3 d1 d2 t1 HI hc1 hlen HSH ⊢
    have HXS := Lib.hid hxs
    have HX := Lib.hid (show ∀ i (hi : i < xs.length), w1.cell? ⟨b, o + i, none⟩ = some (.int .i64 xs[i]) from fun i hi => hx i _ (by simp [hi]))
    have hb1 : b < w1.heap.size := World.block_lt_of_cell? w1 _ (HX.out 0 (by omega))
    have x0 := HX.out 0 (by omega)
    have x1 := HX.out 1 (by omega)
    have x2 := HX.out 2 (by omega)
    rw [Nat.add_zero] at x0
    have n0 : ∀ y, (ext w1.drew none y).cell? ⟨b, o, none⟩ = some (.int .i64 xs[0]) := fun y => (cell?_ext (w := w1.drew) (by simpa using hb1) (by simp)).trans x0
    have n1 : ∀ y, (ext w1.drew none y).cell? ⟨b, o + 1, none⟩ = some (.int .i64 xs[1]) := fun y => (cell?_ext (w := w1.drew) (by simpa using hb1) (by simp)).trans x1
    have n2 : ∀ y, (ext w1.drew none y).cell? ⟨b, o + 2, none⟩ = some (.int .i64 xs[2]) := fun y => (cell?_ext (w := w1.drew) (by simpa using hb1) (by simp)).trans x2
    have p0 : 0 < xs.length := by omega
    have p1 : 1 < xs.length := by omega
    have p2 : 2 < xs.length := by omega
    have q1 : (1 : Int) < (xs.length : Int) := by omega
    have q2 : (2 : Int) < (xs.length : Int) := by omega
    clear hsh hx hxs hc2 x0 x1 x2
    go_wp2_with fail
    refine wp_region_ordG [(0, 1), (1, 1), (2, 1), (3, 1), (4, 1), (5, 1), (6, 1), (7, 1), (8, 1), (9, 1), (10, 0), (11, 0)] [10, 11] (none) (by kernel_rfl) (by kernel_rfl) ?_
    (repeat ((first | with_reducible refine wpOrdG_soft (fun K hK => ?_) | with_reducible refine wpOrdG_pre (fun K hK => ?_)); simp only [List.getElem?_toArray, List.getElem?_cons_zero, List.getElem?_cons_succ]; first | (go_simp; refine hK _ ?_) | (simp only [undef]; go_simp; refine hK _ ?_); clear hK K))
    (with_reducible refine wpOrdG_hard ?_; simp only [List.getElem?_toArray, List.getElem?_cons_zero, List.getElem?_cons_succ])
    go_wp2_with fail
    refine And.intro (World.grownBy_alloc _ _ _) ?_
    (repeat ((first | with_reducible refine wpOrdG_soft (fun K hK => ?_) | with_reducible refine wpOrdG_pre (fun K hK => ?_)); simp only [List.getElem?_toArray, List.getElem?_cons_zero, List.getElem?_cons_succ]; first | (go_simp; refine hK _ ?_) | (simp only [undef]; go_simp; refine hK _ ?_); clear hK K))
    (with_reducible refine wpOrdG_hard ?_; simp only [List.getElem?_toArray, List.getElem?_cons_zero, List.getElem?_cons_succ])
    go_wp2_with fail
    refine And.intro (World.grownBy_alloc _ _ _) ?_
    (repeat ((first | with_reducible refine wpOrdG_soft (fun K hK => ?_) | with_reducible refine wpOrdG_pre (fun K hK => ?_)); simp only [List.getElem?_toArray, List.getElem?_cons_zero, List.getElem?_cons_succ]; first | (go_simp; refine hK _ ?_) | (simp only [undef]; go_simp; refine hK _ ?_); clear hK K))
    (with_reducible refine wpOrdG_nil ?_); refine NoPanic.normal ?_
    have BQ := Lib.hid (Box.alloc w1 [.int .i64 xs[0], .slice none 0 0, .int .i64 xs[1], .int .i64 xs[2]] 29 w1.heap.size rfl)
    clear n0 n1 n2
    go_wp2_with fail
    go_loopw [7] (fun i wr => ∃ (j p : Nat) (a' : Option Addr) (c' : Nat), p = 3 + 2 * j ∧ p ≤ xs.length ∧ i = .int .i64 (p : Int) ∧ Box wr w1.heap.size [.int .i64 xs[0], .slice a' j c', .int .i64 xs[1], .int .i64 xs[2]] ∧ wr.ownsRow (w1.heap.size + 1) 54 2 (.slice a' j c') j (((actOf xs).levs.take j).flatMap Lev.cells) ∧ Below w1.heap.size w1 wr) (fun i _ => xs.length - (intOf i).toNat)
    case atStart => exact ⟨0, 3, none, 0, rfl, h3, by go_num, ⟨BQ.out.lt, BQ.out.at', BQ.out.fr⟩, by simpa using owns_nil _ 54 2 _, Below.drew (belowA _ _)⟩
    case round =>
      obtain ⟨j, p, a', c', hp, hpl, rfl, hq, ho, hb⟩ := hrel
      have FQ := Lib.hid hq; have HO := Lib.hid ho; have HB := Lib.hid hb
      have hlq := hq.lt
      have c0 := hq.at' 1 _ rfl
      have g0 := hq.fr 1
      have HP := Lib.hid hp
      have hj := (show j ≤ 31 by omega)
      clear BQ hq ho
      by_cases hlt : p < xs.length
      · obtain ⟨h2, hjl, hst⟩ := lev_step HSH.out (j := j) (by omega)
        have h2' : p + 1 < xs.length := by omega
        obtain ⟨r, hr⟩ : ∃ r, r = p + 1 := ⟨_, rfl⟩
        have hrl : r < xs.length := by omega
        have HST := Lib.hid (show (actOf xs).levs.take (j + 1) = (actOf xs).levs.take j ++ [⟨xs[p], xs[r]⟩] by subst hr; subst hp; exact hst)
        have e1 := cellB hb (HX.out p hlt)
        have e2 := cellB hb (HX.out r hrl)
        have wr1 : IntKind.i64.wrap ((p : Int) + 1) = (r : Int) := by rw [IntWalk.i64_in _ (by omega)]; omega
        have q5 : (r : Int) < (xs.length : Int) := by omega
        have HRE := Lib.hid hr
        have hbr : b < wr.heap.size := by have := hb.size; omega
        have n1 : ∀ y, (extT wr.drew w1.heap.size wr.heap.size y).cell? ⟨b, o + p, none⟩ = some (.int .i64 xs[p]) := fun y => (cell?_extT_lo (w := wr.drew) (by simpa using hbr) hb1).trans e1
        have n2 : ∀ y, (extT wr.drew w1.heap.size wr.heap.size y).cell? ⟨b, o + r, none⟩ = some (.int .i64 xs[r]) := fun y => (cell?_extT_lo (w := wr.drew) (by simpa using hbr) hb1).trans e2
        have n0 : ∀ y, (ext wr.drew none y).cell? ⟨w1.heap.size, 1, none⟩ = some (.slice a' j c') := fun y => (cell?_ext (w := wr.drew) (by simpa using hlq) (by simp)).trans c0
        have q4 : (p : Int) < (xs.length : Int) := by omega
        clear hst h2 h2' hb e1 e2 hp hr
        go_wp2_with fail
        refine wp_region_ord3 [(0, 1), (1, 3), (2, 1), (3, 1), (4, 1), (5, 1), (6, 1), (7, 1), (8, 1), (9, 1), (10, 1), (11, 1), (12, 4), (13, 0), (14, 1), (15, 0)] [12, 13, 15] [13, 15] (w1.heap.size) (wr.heap.size) (by kernel_rfl) (by kernel_rfl) ?_
        (repeat ((first | with_reducible refine wpOrd3_soft (fun K hK => ?_) | with_reducible refine wpOrd3_pre (fun K hK => ?_) | with_reducible refine wpOrd3_late (fun K hK => ?_)); simp only [List.getElem?_toArray, List.getElem?_cons_zero, List.getElem?_cons_succ]; first | (go_simp; refine hK _ ?_) | (simp only [undef]; go_simp; refine hK _ ?_); clear hK K))
        ((first | with_reducible refine wpOrd3_hard ?_ | with_reducible refine wpOrd3_new ?_); simp only [List.getElem?_toArray, List.getElem?_cons_zero, List.getElem?_cons_succ])
        go_wp2_with fail
        refine And.intro (World.grownBy_alloc _ _ _) ?_
        (repeat ((first | with_reducible refine wpOrd3_soft (fun K hK => ?_) | with_reducible refine wpOrd3_pre (fun K hK => ?_) | with_reducible refine wpOrd3_late (fun K hK => ?_)); simp only [List.getElem?_toArray, List.getElem?_cons_zero, List.getElem?_cons_succ]; first | (go_simp; refine hK _ ?_) | (simp only [undef]; go_simp; refine hK _ ?_); clear hK K))
        ((first | with_reducible refine wpOrd3_hard ?_ | with_reducible refine wpOrd3_new ?_); simp only [List.getElem?_toArray, List.getElem?_cons_zero, List.getElem?_cons_succ])
        refine append_one_atD rfl _ _ 27 rfl (w1.heap.size + 1) 54 _ 2 16 Tryd.underlying27 info_Lever rfl (by decide) _ j _ rfl HO.out [.int .i64 xs[p], .int .i64 xs[r]] rfl (by simp [Value.oneCell']) wr.heap.size rfl rfl (by omega) (by decide) (by omega) ?_
        intro a5 cap5 w5 ho5 hg5 hb5
        have hst : Below (w1.heap.size + 1) wr w5 := Below.trans ((Below.refl _ wr).drew) hb5
        have HT5 := Lib.hid (Touch.of_grown (B := w1.heap.size) (E := wr.heap.size) hg5 (fun q hq => by have := HO.out.lt q hq; omega))
        have bq := FQ.out.step hst (by omega)
        have c5 := bq.at' 1 _ rfl
        have g5 := bq.fr 1
        have l5 := bq.lt
        have GQ := Lib.hid (bq.set (j := 1) (.slice a5 (j + 1) cap5) (by simp))
        have GO := Lib.hid (ownsRow_setCell_below (a := ⟨w1.heap.size, 1, none⟩) ho5 (by simp) (.slice a5 (j + 1) cap5))
        have hz5 := hst.size
        have GB := Lib.hid (((Touch.refl w1.heap.size (w1.heap.size + 1) w5).setCell (p := ⟨w1.heap.size, 1, none⟩) (by simp) (.slice a5 (j + 1) cap5)).below (HB.out.trans (hst.mono (by omega))) (Nat.le_refl _) (by omega))
        clear ho5 hg5 hb5 hst bq n0 n1 n2 c0 g0 FQ HO HB
        go_wp2_with fail
        refine And.intro HT5.out ?_
        (repeat ((first | with_reducible refine wpOrd3_soft (fun K hK => ?_) | with_reducible refine wpOrd3_pre (fun K hK => ?_) | with_reducible refine wpOrd3_late (fun K hK => ?_)); simp only [List.getElem?_toArray, List.getElem?_cons_zero, List.getElem?_cons_succ]; first | (go_simp; refine hK _ ?_) | (simp only [undef]; go_simp; refine hK _ ?_); clear hK K))
        ((first | with_reducible refine wpOrd3_hard ?_ | with_reducible refine wpOrd3_new ?_); simp only [List.getElem?_toArray, List.getElem?_cons_zero, List.getElem?_cons_succ])
        go_wp2_with fail
        refine And.intro (HT5.out.setCell (by simp; omega) _) ?_
        (with_reducible refine wpOrd3_nil ?_); refine NoPanic.normal ?_
        go_wp2
        go_roundw
        case rel => exact ⟨j + 1, p + 2, a5, cap5, by have := HP.out; omega, by have := HRE.out; have := HSH.out.2; have := HP.out; omega, by go_num, GQ.out, by rw [HST.out, List.flatMap_append]; exact GO.out, GB.out⟩
        case measure => simp [intOf] <;> omega
      · obtain rfl : p = xs.length := by omega
        have hj2 : j = (actOf xs).levs.length := by have := (actOf_list HSH.out).2; have := HP.out; omega
        subst hj2
        have HLV := Lib.hid (show OwnRow (w1.heap.size + 1) wr.heap.size wr 54 2 (.slice a' (actOf xs).levs.length c') (actOf xs).levs.length ((actOf xs).levs.flatMap Lev.cells) by
          have := HO.out
          rw [List.take_length] at this
          exact OwnRow.mk' this)
        have k0 : (actOf xs).note = xs[0] := by show xs.getD 0 0 = xs[0]; simp [p0]
        have k1 : (actOf xs).slack = xs[1] := by show xs.getD 1 0 = xs[1]; simp [p1]
        have k2 : (actOf xs).weight = xs[2] := by show xs.getD 2 0 = xs[2]; simp [p2]
        have FQ := Lib.hid (show Box wr w1.heap.size [.int .i64 (actOf xs).note, .slice a' (actOf xs).levs.length c', .int .i64 (actOf xs).slack, .int .i64 (actOf xs).weight] by rw [k0, k1, k2]; exact FQ.out)
        have B0 := Lib.hid (B0.out.mono (hb.mono (Nat.le_refl _)))
        have HBW := Lib.hid (HB1.out.trans (hb.mono (by omega)))
        obtain ⟨x, hxe⟩ : ∃ x, x = actOf xs := ⟨_, rfl⟩
        rw [← hxe] at FQ HLV
        have HXE := Lib.hid hxe
        have u0 := FQ.out.at' 0 _ rfl
        have u1 := FQ.out.at' 1 _ rfl
        have u2 := FQ.out.at' 2 _ rfl
        have u3 := FQ.out.at' 3 _ rfl
        clear k0 k1 k2 HO HB hb hxe c0 g0 q1 q2
        go_wp2_with fail
        refine (l24One_any _ 0 _ x _ ⟨by simpa using u0, by simpa using u1, by simpa using u2, by simpa using u3, Levs.of_owns HLV.out.1⟩).mono ?_
        cases hval : validActB x
        · have HR := Lib.hid (rd_no (s := s) (fun h => by
            have h3 := h.2.2
            rw [← HXS.out, ← HXE.out] at h3
            have : validActB x = true := by simpa [validActB] using h3
            rw [hval] at this; cases this))
          rintro e w2 ⟨rfl, rfl⟩
          clear hval u0 u1 u2 u3
          have r0 := B0.out.at' 0 _ rfl
          have r1 := B0.out.at' 1 _ rfl
          have r2 := B0.out.at' 2 _ rfl
          have r3 := B0.out.at' 3 _ rfl
          have f0 := B0.out.fr 0
          have f1 := B0.out.fr 1
          have f2 := B0.out.fr 2
          have f3 := B0.out.fr 3
          have l0 := B0.out.lt
          go_wp2
          refine bodyPost_ret (v := .tuple #[.agg #[.int .i64 0, .slice none 0 0, .int .i64 0, .int .i64 0], .bool false]) (by simp [results, Tryd.results11, go_sem, r0, r1, r2, r3, f0, f1, f2, f3, l0]) rfl ⟨_, by rw [HR.out.1], by rw [HR.out.2]; exact own_zeroR _ _ _, ?_⟩
          have hbw := HBW.out
          (repeat (first | with_reducible exact Below.refl _ _ | with_reducible exact hbw | (with_reducible refine Below.setCell ?_ ?_ _; rotate_left; · first | exact Nat.le_refl _ | omega | (simp; done) | (simp; omega)) | (with_reducible refine Below.alloc ?_ ?_ _; rotate_left; · first | exact Nat.le_refl _ | omega | (simp; done) | (simp; omega)) | with_reducible refine below_drewN ?_ _ | with_reducible refine Below.drew ?_))
        · have HR := Lib.hid (rd_yes (s := s) hok (by rw [← HXS.out]; exact HSH.out) (by rw [← HXS.out, ← HXE.out]; simpa [validActB] using hval))
          rintro e w2 ⟨rfl, rfl⟩
          clear hval
          have r0 := B0.out.at' 0 _ rfl
          have r1 := B0.out.at' 1 _ rfl
          have r2 := B0.out.at' 2 _ rfl
          have r3 := B0.out.at' 3 _ rfl
          have f0 := B0.out.fr 0
          have f1 := B0.out.fr 1
          have f2 := B0.out.fr 2
          have f3 := B0.out.fr 3
          have l0 := B0.out.lt
          go_wp2
          refine bodyPost_ret (v := .tuple #[.agg #[.int .i64 x.note, .slice a' x.levs.length c', .int .i64 x.slack, .int .i64 x.weight], .bool true]) (by simp [results, Tryd.results11, go_sem, r0, r1, r2, r3, f0, f1, f2, f3, l0]) rfl ⟨_, by rw [HR.out.1], ?_, ?_⟩
          · rw [HR.out.2, ← HXS.out, ← HXE.out]
            refine ⟨_, rfl, ?_⟩
            refine (HLV.out.touch (B' := w.heap.size) (E' := w.heap.size + 1) ?_ (Or.inr (by omega))).wide (by omega) (by first | (simp; done) | (simp; omega))
            have htc := Touch.refl w.heap.size (w.heap.size + 1) w2
            (repeat (first | with_reducible exact Touch.refl _ _ _ | with_reducible exact htc | (with_reducible refine Touch.setCell ?_ ?_ _; rotate_left; · (simp only; omega)) | (with_reducible refine Touch.setNew ?_ ?_ _; rotate_left; · (first | (simp only; omega) | (simp; done) | (simp; omega))) | with_reducible refine Touch.alloc ?_ _ | with_reducible refine Touch.drewN ?_ _ | with_reducible refine Touch.drew ?_))
          · have hbw := HBW.out
            (repeat (first | with_reducible exact Below.refl _ _ | with_reducible exact hbw | (with_reducible refine Below.setCell ?_ ?_ _; rotate_left; · first | exact Nat.le_refl _ | omega | (simp; done) | (simp; omega)) | (with_reducible refine Below.alloc ?_ ?_ _; rotate_left; · first | exact Nat.le_refl _ | omega | (simp; done) | (simp; omega)) | with_reducible refine below_drewN ?_ _ | with_reducible refine Below.drew ?_))
  · have HR := Lib.hid (rd_no (s := s) (fun h => hsh h.2.1))
    by_cases h3 : (rlV s).length < 3
    · have d1 : decide (((rlV s).length : Int) < 3) = true := by simp; omega
      clear hsh hc1 hc2
      have r0 := B0.out.at' 0 _ rfl
      have r1 := B0.out.at' 1 _ rfl
      have r2 := B0.out.at' 2 _ rfl
      have r3 := B0.out.at' 3 _ rfl
      have f0 := B0.out.fr 0
      have f1 := B0.out.fr 1
      have f2 := B0.out.fr 2
      have f3 := B0.out.fr 3
      have l0 := B0.out.lt
      go_wp2
      refine bodyPost_ret (v := .tuple #[.agg #[.int .i64 0, .slice none 0 0, .int .i64 0, .int .i64 0], .bool false]) (by simp [results, Tryd.results11, go_sem, r0, r1, r2, r3, f0, f1, f2, f3, l0]) rfl ⟨_, by rw [HR.out.1], by rw [HR.out.2]; exact own_zeroR _ _ _, ?_⟩
      have hbw := HB1.out
      (repeat (first | with_reducible exact Below.refl _ _ | with_reducible exact hbw | (with_reducible refine Below.setCell ?_ ?_ _; rotate_left; · first | exact Nat.le_refl _ | omega | (simp; done) | (simp; omega)) | (with_reducible refine Below.alloc ?_ ?_ _; rotate_left; · first | exact Nat.le_refl _ | omega | (simp; done) | (simp; omega)) | with_reducible refine below_drewN ?_ _ | with_reducible refine Below.drew ?_))
    · have d1 : decide (((rlV s).length : Int) < 3) = false := by simp; omega
      have d2 : decide ((rlV s).length < 3) = false := by simp; omega
      have t0 : ((rlV s).length : Int).tmod 2 = 0 := by rw [Int.tmod_eq_emod_of_nonneg (by omega)]; unfold shapeOk at hsh; omega
      obtain ⟨L, hL⟩ : ∃ L : Int, L = ((rlV s).length : Int) := ⟨_, rfl⟩
      clear hsh hc1 hc2
      have r0 := B0.out.at' 0 _ rfl
      have r1 := B0.out.at' 1 _ rfl
      have r2 := B0.out.at' 2 _ rfl
      have r3 := B0.out.at' 3 _ rfl
      have f0 := B0.out.fr 0
      have f1 := B0.out.fr 1
      have f2 := B0.out.fr 2
      have f3 := B0.out.fr 3
      have l0 := B0.out.lt
      go_wp2
      refine bodyPost_ret (v := .tuple #[.agg #[.int .i64 0, .slice none 0 0, .int .i64 0, .int .i64 0], .bool false]) (by simp [results, Tryd.results11, go_sem, r0, r1, r2, r3, f0, f1, f2, f3, l0]) rfl ⟨_, by rw [HR.out.1], by rw [HR.out.2]; exact own_zeroR _ _ _, ?_⟩
      have hbw := HB1.out
      (repeat (first | with_reducible exact Below.refl _ _ | with_reducible exact hbw | (with_reducible refine Below.setCell ?_ ?_ _; rotate_left; · first | exact Nat.le_refl _ | omega | (simp; done) | (simp; omega)) | (with_reducible refine Below.alloc ?_ ?_ _; rotate_left; · first | exact Nat.le_refl _ | omega | (simp; done) | (simp; omega)) | with_reducible refine below_drewN ?_ _ | with_reducible refine Below.drew ?_))

theorem rlB_shape {s : ByteArray} (h : shapeOk (rlV s)) : rlB s = true := by
  by_cases hd : s = bytesB [45]
  · exact (rl_dash hd).1
  · cases hn : numsB (pieces s) with
    | true => exact (rl_yes hd hn).1
    | false => rw [(rl_no hd hn).2] at h; exact absurd h.1 (by simp)

set_option maxHeartbeats 4000000 in
theorem implReadAction_any (s : ByteArray) (w : World) (hs : s.size ≤ 1048576) (hL : Lay w) :
    Calls Tryd.prog 12 #[.string s] w fun e w' => ∃ v, e = .returned (.tuple #[v, .bool (rdB s)]) ∧ OwnAct w.heap.size w'.heap.size w' v (rdV s) ∧ Below w.heap.size w w' := by
  have HRL := Lib.hid fun w hL => implReadList_any s w hs hL
  have HLY := Lib.hid hL
  clear hs hL
  go_enter Tryd.func12, Tryd.ntmps12
  go_wp2_with fail
  have B0 := Lib.hid (Box.alloc w [.int .i64 0, .slice none 0 0, .int .i64 0, .int .i64 0] 29 w.heap.size rfl)
  refine (HRL.out _ (HLY.out.mono (belowA _ _))).mono ?_
  rintro e w1 ⟨v, rfl, hi, hb1⟩
  have B0 := Lib.hid (B0.out.mono hb1)
  have HB1 := Lib.hid (Below.trans (belowA w (.cells #[.int .i64 0, .slice none 0 0, .int .i64 0, .int .i64 0] 29)) (hb1.mono (by simp)))
  have hz1 : w.heap.size < w1.heap.size := B0.out.lt
  obtain ⟨a, ca, rfl, hc1, hc2, _⟩ := id hi
  have HI := Lib.hid hi
  have hlen := rlV_len s
  clear hb1 hi
  by_cases hsh : shapeOk (rlV s)
  · have hok := rlB_shape hsh
    rw [hok]
    have h3 : 3 ≤ (rlV s).length := hsh.1
    have d1 : decide (((rlV s).length : Int) < 3) = false := by simp; omega
    have d2 : decide ((rlV s).length < 3) = false := by simp; omega
    have t1 : ((rlV s).length : Int).tmod 2 = 1 := by rw [Int.tmod_eq_emod_of_nonneg (by omega)]; unfold shapeOk at hsh; omega
    have HSH := Lib.hid hsh
    obtain ⟨b, o, rfl, hx⟩ := HI.out.cells (by simp; omega)
    obtain ⟨xs, hxs⟩ : ∃ xs, xs = rlV s := ⟨_, rfl⟩
    rw [← hxs] at hx h3 d1 d2 t1 HI hc1 hlen HSH ⊢
    have HXS := Lib.hid hxs
    have HX := Lib.hid (show ∀ i (hi : i < xs.length), w1.cell? ⟨b, o + i, none⟩ = some (.int .i64 xs[i]) from fun i hi => hx i _ (by simp [hi]))
    have hb1 : b < w1.heap.size := World.block_lt_of_cell? w1 _ (HX.out 0 (by omega))
    have x0 := HX.out 0 (by omega)
    have x1 := HX.out 1 (by omega)
    have x2 := HX.out 2 (by omega)
    rw [Nat.add_zero] at x0
    have n0 : ∀ y, (ext w1.drew none y).cell? ⟨b, o, none⟩ = some (.int .i64 xs[0]) := fun y => (cell?_ext (w := w1.drew) (by simpa using hb1) (by simp)).trans x0
    have n1 : ∀ y, (ext w1.drew none y).cell? ⟨b, o + 1, none⟩ = some (.int .i64 xs[1]) := fun y => (cell?_ext (w := w1.drew) (by simpa using hb1) (by simp)).trans x1
    have n2 : ∀ y, (ext w1.drew none y).cell? ⟨b, o + 2, none⟩ = some (.int .i64 xs[2]) := fun y => (cell?_ext (w := w1.drew) (by simpa using hb1) (by simp)).trans x2
    have p0 : 0 < xs.length := by omega
    have p1 : 1 < xs.length := by omega
    have p2 : 2 < xs.length := by omega
    have q1 : (1 : Int) < (xs.length : Int) := by omega
    have q2 : (2 : Int) < (xs.length : Int) := by omega
    clear hsh hx hxs hc2 x0 x1 x2
    go_wp2_with fail
    refine wp_region_ordG [(0, 1), (1, 1), (2, 1), (3, 1), (4, 1), (5, 1), (6, 1), (7, 1), (8, 1), (9, 1), (10, 0), (11, 0)] [10, 11] (none) (by kernel_rfl) (by kernel_rfl) ?_
    (repeat ((first | with_reducible refine wpOrdG_soft (fun K hK => ?_) | with_reducible refine wpOrdG_pre (fun K hK => ?_)); simp only [List.getElem?_toArray, List.getElem?_cons_zero, List.getElem?_cons_succ]; first | (go_simp; refine hK _ ?_) | (simp only [undef]; go_simp; refine hK _ ?_); clear hK K))
    (with_reducible refine wpOrdG_hard ?_; simp only [List.getElem?_toArray, List.getElem?_cons_zero, List.getElem?_cons_succ])
    go_wp2_with fail
    refine And.intro (World.grownBy_alloc _ _ _) ?_
    (repeat ((first | with_reducible refine wpOrdG_soft (fun K hK => ?_) | with_reducible refine wpOrdG_pre (fun K hK => ?_)); simp only [List.getElem?_toArray, List.getElem?_cons_zero, List.getElem?_cons_succ]; first | (go_simp; refine hK _ ?_) | (simp only [undef]; go_simp; refine hK _ ?_); clear hK K))
    (with_reducible refine wpOrdG_hard ?_; simp only [List.getElem?_toArray, List.getElem?_cons_zero, List.getElem?_cons_succ])
    go_wp2_with fail
    refine And.intro (World.grownBy_alloc _ _ _) ?_
    (repeat ((first | with_reducible refine wpOrdG_soft (fun K hK => ?_) | with_reducible refine wpOrdG_pre (fun K hK => ?_)); simp only [List.getElem?_toArray, List.getElem?_cons_zero, List.getElem?_cons_succ]; first | (go_simp; refine hK _ ?_) | (simp only [undef]; go_simp; refine hK _ ?_); clear hK K))
    (with_reducible refine wpOrdG_nil ?_); refine NoPanic.normal ?_
    have BQ := Lib.hid (Box.alloc w1 [.int .i64 xs[0], .slice none 0 0, .int .i64 xs[1], .int .i64 xs[2]] 29 w1.heap.size rfl)
    clear n0 n1 n2
    go_wp2_with fail
    go_loopw [7] (fun i wr => ∃ (j p : Nat) (a' : Option Addr) (c' : Nat), p = 3 + 2 * j ∧ p ≤ xs.length ∧ i = .int .i64 (p : Int) ∧ Box wr w1.heap.size [.int .i64 xs[0], .slice a' j c', .int .i64 xs[1], .int .i64 xs[2]] ∧ wr.ownsRow (w1.heap.size + 1) 54 2 (.slice a' j c') j (((actOf xs).levs.take j).flatMap Lev.cells) ∧ Below w1.heap.size w1 wr) (fun i _ => xs.length - (intOf i).toNat)
    case atStart => exact ⟨0, 3, none, 0, rfl, h3, by go_num, ⟨BQ.out.lt, BQ.out.at', BQ.out.fr⟩, by simpa using owns_nil _ 54 2 _, Below.drew (belowA _ _)⟩
    case round =>
      obtain ⟨j, p, a', c', hp, hpl, rfl, hq, ho, hb⟩ := hrel
      have FQ := Lib.hid hq; have HO := Lib.hid ho; have HB := Lib.hid hb
      have hlq := hq.lt
      have c0 := hq.at' 1 _ rfl
      have g0 := hq.fr 1
      have HP := Lib.hid hp
      have hj := (show j ≤ 31 by omega)
      clear BQ hq ho
      by_cases hlt : p < xs.length
      · obtain ⟨h2, hjl, hst⟩ := lev_step HSH.out (j := j) (by omega)
        have h2' : p + 1 < xs.length := by omega
        obtain ⟨r, hr⟩ : ∃ r, r = p + 1 := ⟨_, rfl⟩
        have hrl : r < xs.length := by omega
        have HST := Lib.hid (show (actOf xs).levs.take (j + 1) = (actOf xs).levs.take j ++ [⟨xs[p], xs[r]⟩] by subst hr; subst hp; exact hst)
        have e1 := cellB hb (HX.out p hlt)
        have e2 := cellB hb (HX.out r hrl)
        have wr1 : IntKind.i64.wrap ((p : Int) + 1) = (r : Int) := by rw [IntWalk.i64_in _ (by omega)]; omega
        have q5 : (r : Int) < (xs.length : Int) := by omega
        have HRE := Lib.hid hr
        have hbr : b < wr.heap.size := by have := hb.size; omega
        have n1 : ∀ y, (extT wr.drew w1.heap.size wr.heap.size y).cell? ⟨b, o + p, none⟩ = some (.int .i64 xs[p]) := fun y => (cell?_extT_lo (w := wr.drew) (by simpa using hbr) hb1).trans e1
        have n2 : ∀ y, (extT wr.drew w1.heap.size wr.heap.size y).cell? ⟨b, o + r, none⟩ = some (.int .i64 xs[r]) := fun y => (cell?_extT_lo (w := wr.drew) (by simpa using hbr) hb1).trans e2
        have n0 : ∀ y, (ext wr.drew none y).cell? ⟨w1.heap.size, 1, none⟩ = some (.slice a' j c') := fun y => (cell?_ext (w := wr.drew) (by simpa using hlq) (by simp)).trans c0
        have q4 : (p : Int) < (xs.length : Int) := by omega
        clear hst h2 h2' hb e1 e2 hp hr
        go_wp2_with fail
        refine wp_region_ord3 [(0, 1), (1, 3), (2, 1), (3, 1), (4, 1), (5, 1), (6, 1), (7, 1), (8, 1), (9, 1), (10, 1), (11, 1), (12, 4), (13, 0), (14, 1), (15, 0)] [12, 13, 15] [13, 15] (w1.heap.size) (wr.heap.size) (by kernel_rfl) (by kernel_rfl) ?_
        (repeat ((first | with_reducible refine wpOrd3_soft (fun K hK => ?_) | with_reducible refine wpOrd3_pre (fun K hK => ?_) | with_reducible refine wpOrd3_late (fun K hK => ?_)); simp only [List.getElem?_toArray, List.getElem?_cons_zero, List.getElem?_cons_succ]; first | (go_simp; refine hK _ ?_) | (simp only [undef]; go_simp; refine hK _ ?_); clear hK K))
        ((first | with_reducible refine wpOrd3_hard ?_ | with_reducible refine wpOrd3_new ?_); simp only [List.getElem?_toArray, List.getElem?_cons_zero, List.getElem?_cons_succ])
        go_wp2_with fail
        refine And.intro (World.grownBy_alloc _ _ _) ?_
        (repeat ((first | with_reducible refine wpOrd3_soft (fun K hK => ?_) | with_reducible refine wpOrd3_pre (fun K hK => ?_) | with_reducible refine wpOrd3_late (fun K hK => ?_)); simp only [List.getElem?_toArray, List.getElem?_cons_zero, List.getElem?_cons_succ]; first | (go_simp; refine hK _ ?_) | (simp only [undef]; go_simp; refine hK _ ?_); clear hK K))
        ((first | with_reducible refine wpOrd3_hard ?_ | with_reducible refine wpOrd3_new ?_); simp only [List.getElem?_toArray, List.getElem?_cons_zero, List.getElem?_cons_succ])
        refine append_one_atD rfl _ _ 27 rfl (w1.heap.size + 1) 54 _ 2 16 Tryd.underlying27 info_Lever rfl (by decide) _ j _ rfl HO.out [.int .i64 xs[p], .int .i64 xs[r]] rfl (by simp [Value.oneCell']) wr.heap.size rfl rfl (by omega) (by decide) (by omega) ?_
        intro a5 cap5 w5 ho5 hg5 hb5
        have hst : Below (w1.heap.size + 1) wr w5 := Below.trans ((Below.refl _ wr).drew) hb5
        have HT5 := Lib.hid (Touch.of_grown (B := w1.heap.size) (E := wr.heap.size) hg5 (fun q hq => by have := HO.out.lt q hq; omega))
        have bq := FQ.out.step hst (by omega)
        have c5 := bq.at' 1 _ rfl
        have g5 := bq.fr 1
        have l5 := bq.lt
        have GQ := Lib.hid (bq.set (j := 1) (.slice a5 (j + 1) cap5) (by simp))
        have GO := Lib.hid (ownsRow_setCell_below (a := ⟨w1.heap.size, 1, none⟩) ho5 (by simp) (.slice a5 (j + 1) cap5))
        have hz5 := hst.size
        have GB := Lib.hid (((Touch.refl w1.heap.size (w1.heap.size + 1) w5).setCell (p := ⟨w1.heap.size, 1, none⟩) (by simp) (.slice a5 (j + 1) cap5)).below (HB.out.trans (hst.mono (by omega))) (Nat.le_refl _) (by omega))
        clear ho5 hg5 hb5 hst bq n0 n1 n2 c0 g0 FQ HO HB
        go_wp2_with fail
        refine And.intro HT5.out ?_
        (repeat ((first | with_reducible refine wpOrd3_soft (fun K hK => ?_) | with_reducible refine wpOrd3_pre (fun K hK => ?_) | with_reducible refine wpOrd3_late (fun K hK => ?_)); simp only [List.getElem?_toArray, List.getElem?_cons_zero, List.getElem?_cons_succ]; first | (go_simp; refine hK _ ?_) | (simp only [undef]; go_simp; refine hK _ ?_); clear hK K))
        ((first | with_reducible refine wpOrd3_hard ?_ | with_reducible refine wpOrd3_new ?_); simp only [List.getElem?_toArray, List.getElem?_cons_zero, List.getElem?_cons_succ])
        go_wp2_with fail
        refine And.intro (HT5.out.setCell (by simp; omega) _) ?_
        (with_reducible refine wpOrd3_nil ?_); refine NoPanic.normal ?_
        go_wp2
        go_roundw
        case rel => exact ⟨j + 1, p + 2, a5, cap5, by have := HP.out; omega, by have := HRE.out; have := HSH.out.2; have := HP.out; omega, by go_num, GQ.out, by rw [HST.out, List.flatMap_append]; exact GO.out, GB.out⟩
        case measure => simp [intOf] <;> omega
      · obtain rfl : p = xs.length := by omega
        have hj2 : j = (actOf xs).levs.length := by have := (actOf_list HSH.out).2; have := HP.out; omega
        subst hj2
        have HLV := Lib.hid (show OwnRow (w1.heap.size + 1) wr.heap.size wr 54 2 (.slice a' (actOf xs).levs.length c') (actOf xs).levs.length ((actOf xs).levs.flatMap Lev.cells) by
          have := HO.out
          rw [List.take_length] at this
          exact OwnRow.mk' this)
        have k0 : (actOf xs).note = xs[0] := by show xs.getD 0 0 = xs[0]; simp [p0]
        have k1 : (actOf xs).slack = xs[1] := by show xs.getD 1 0 = xs[1]; simp [p1]
        have k2 : (actOf xs).weight = xs[2] := by show xs.getD 2 0 = xs[2]; simp [p2]
        have FQ := Lib.hid (show Box wr w1.heap.size [.int .i64 (actOf xs).note, .slice a' (actOf xs).levs.length c', .int .i64 (actOf xs).slack, .int .i64 (actOf xs).weight] by rw [k0, k1, k2]; exact FQ.out)
        have B0 := Lib.hid (B0.out.mono (hb.mono (Nat.le_refl _)))
        have HBW := Lib.hid (HB1.out.trans (hb.mono (by omega)))
        obtain ⟨x, hxe⟩ : ∃ x, x = actOf xs := ⟨_, rfl⟩
        rw [← hxe] at FQ HLV
        have HXE := Lib.hid hxe
        have u0 := FQ.out.at' 0 _ rfl
        have u1 := FQ.out.at' 1 _ rfl
        have u2 := FQ.out.at' 2 _ rfl
        have u3 := FQ.out.at' 3 _ rfl
        clear k0 k1 k2 HO HB hb hxe c0 g0 q1 q2
        go_wp2_with fail
        refine (implValidAct_any _ (.slice a' x.levs.length c') x _ ⟨rfl, Levs.of_owns HLV.out.1⟩).mono ?_
        cases hval : validActB x
        · have HR := Lib.hid (rd_no (s := s) (fun h => by
            have h3 := h.2.2
            rw [← HXS.out, ← HXE.out] at h3
            have : validActB x = true := by simpa [validActB] using h3
            rw [hval] at this; cases this))
          rintro e w2 ⟨rfl, hb2⟩
          have B0 := Lib.hid (B0.out.mono hb2)
          have HBW := Lib.hid (HBW.out.trans (hb2.mono HBW.out.size))
          clear hval u0 u1 u2 u3 hb2
          have r0 := B0.out.at' 0 _ rfl
          have r1 := B0.out.at' 1 _ rfl
          have r2 := B0.out.at' 2 _ rfl
          have r3 := B0.out.at' 3 _ rfl
          have f0 := B0.out.fr 0
          have f1 := B0.out.fr 1
          have f2 := B0.out.fr 2
          have f3 := B0.out.fr 3
          have l0 := B0.out.lt
          go_wp2
          refine bodyPost_ret (v := .tuple #[.agg #[.int .i64 0, .slice none 0 0, .int .i64 0, .int .i64 0], .bool false]) (by simp [results, Tryd.results12, go_sem, r0, r1, r2, r3, f0, f1, f2, f3, l0]) rfl ⟨_, by rw [HR.out.1], by rw [HR.out.2]; exact own_zeroR _ _ _, ?_⟩
          have hbw := HBW.out
          (repeat (first | with_reducible exact Below.refl _ _ | with_reducible exact hbw | (with_reducible refine Below.setCell ?_ ?_ _; rotate_left; · first | exact Nat.le_refl _ | omega | (simp; done) | (simp; omega)) | (with_reducible refine Below.alloc ?_ ?_ _; rotate_left; · first | exact Nat.le_refl _ | omega | (simp; done) | (simp; omega)) | with_reducible refine below_drewN ?_ _ | with_reducible refine Below.drew ?_))
        · have HR := Lib.hid (rd_yes (s := s) hok (by rw [← HXS.out]; exact HSH.out) (by rw [← HXS.out, ← HXE.out]; simpa [validActB] using hval))
          have HOK := Lib.hid (show x.ok by have := rdV_nums s; rw [HR.out.2, ← HXS.out, ← HXE.out] at this; exact this)
          have HLE := Lib.hid (show x.levs.length ≤ 1048576 by have := rdV_len s; rw [HR.out.2, ← HXS.out, ← HXE.out] at this; omega)
          have HAG := Lib.hid (show actT x = s by rw [HXE.out, HXS.out]; exact act_again hok (by rw [← HXS.out]; exact HSH.out) (by rw [← HXS.out, ← HXE.out]; simpa [validActB] using hval))
          rintro e w2 ⟨rfl, hb2⟩
          have hz2 := hb2.size
          have B0 := Lib.hid (B0.out.mono hb2)
          have HBW := Lib.hid (HBW.out.trans (hb2.mono HBW.out.size))
          have HLV := Lib.hid (HLV.out.mono hb2)
          have u0 := cellB hb2 u0
          have u1 := cellB hb2 u1
          have u2 := cellB hb2 u2
          have u3 := cellB hb2 u3
          have hlq2 : w1.heap.size < w2.heap.size := by omega
          clear hval hb2
          go_wp2_with fail
          refine (implActionText_any _ x _ ⟨.slice a' x.levs.length c', rfl, Levs.of_owns HLV.out.1⟩ HOK.out HLE.out (HLY.out.mono HBW.out).tab).mono ?_
          rw [HAG.out]
          rintro e w3 ⟨rfl, hb3⟩
          have hz3 := hb3.size
          have B0 := Lib.hid (B0.out.mono hb3)
          have HBW := Lib.hid (HBW.out.trans (hb3.mono HBW.out.size))
          have HLV := Lib.hid (HLV.out.mono hb3)
          have u0 := cellB hb3 u0
          have u1 := cellB hb3 u1
          have u2 := cellB hb3 u2
          have u3 := cellB hb3 u3
          clear hb3
          have r0 := B0.out.at' 0 _ rfl
          have r1 := B0.out.at' 1 _ rfl
          have r2 := B0.out.at' 2 _ rfl
          have r3 := B0.out.at' 3 _ rfl
          have f0 := B0.out.fr 0
          have f1 := B0.out.fr 1
          have f2 := B0.out.fr 2
          have f3 := B0.out.fr 3
          have l0 := B0.out.lt
          go_wp2
          refine bodyPost_ret (v := .tuple #[.agg #[.int .i64 x.note, .slice a' x.levs.length c', .int .i64 x.slack, .int .i64 x.weight], .bool true]) (by simp [results, Tryd.results12, go_sem, r0, r1, r2, r3, f0, f1, f2, f3, l0]) rfl ⟨_, by rw [HR.out.1], ?_, ?_⟩
          · rw [HR.out.2, ← HXS.out, ← HXE.out]
            refine ⟨_, rfl, ?_⟩
            refine (HLV.out.touch (B' := w.heap.size) (E' := w.heap.size + 1) ?_ (Or.inr (by omega))).wide (by omega) (by first | (simp; done) | (simp; omega))
            have htc := Touch.refl w.heap.size (w.heap.size + 1) w3
            (repeat (first | with_reducible exact Touch.refl _ _ _ | with_reducible exact htc | (with_reducible refine Touch.setCell ?_ ?_ _; rotate_left; · (simp only; omega)) | (with_reducible refine Touch.setNew ?_ ?_ _; rotate_left; · (first | (simp only; omega) | (simp; done) | (simp; omega))) | with_reducible refine Touch.alloc ?_ _ | with_reducible refine Touch.drewN ?_ _ | with_reducible refine Touch.drew ?_))
          · have hbw := HBW.out
            (repeat (first | with_reducible exact Below.refl _ _ | with_reducible exact hbw | (with_reducible refine Below.setCell ?_ ?_ _; rotate_left; · first | exact Nat.le_refl _ | omega | (simp; done) | (simp; omega)) | (with_reducible refine Below.alloc ?_ ?_ _; rotate_left; · first | exact Nat.le_refl _ | omega | (simp; done) | (simp; omega)) | with_reducible refine below_drewN ?_ _ | with_reducible refine Below.drew ?_))
  · have HR := Lib.hid (rd_no (s := s) (fun h => hsh h.2.1))
    by_cases h3 : (rlV s).length < 3
    · have d1 : decide (((rlV s).length : Int) < 3) = true := by simp; omega
      clear hsh hc1 hc2
      have r0 := B0.out.at' 0 _ rfl
      have r1 := B0.out.at' 1 _ rfl
      have r2 := B0.out.at' 2 _ rfl
      have r3 := B0.out.at' 3 _ rfl
      have f0 := B0.out.fr 0
      have f1 := B0.out.fr 1
      have f2 := B0.out.fr 2
      have f3 := B0.out.fr 3
      have l0 := B0.out.lt
      go_wp2
      refine bodyPost_ret (v := .tuple #[.agg #[.int .i64 0, .slice none 0 0, .int .i64 0, .int .i64 0], .bool false]) (by simp [results, Tryd.results12, go_sem, r0, r1, r2, r3, f0, f1, f2, f3, l0]) rfl ⟨_, by rw [HR.out.1], by rw [HR.out.2]; exact own_zeroR _ _ _, ?_⟩
      have hbw := HB1.out
      (repeat (first | with_reducible exact Below.refl _ _ | with_reducible exact hbw | (with_reducible refine Below.setCell ?_ ?_ _; rotate_left; · first | exact Nat.le_refl _ | omega | (simp; done) | (simp; omega)) | (with_reducible refine Below.alloc ?_ ?_ _; rotate_left; · first | exact Nat.le_refl _ | omega | (simp; done) | (simp; omega)) | with_reducible refine below_drewN ?_ _ | with_reducible refine Below.drew ?_))
    · have d1 : decide (((rlV s).length : Int) < 3) = false := by simp; omega
      have d2 : decide ((rlV s).length < 3) = false := by simp; omega
      have t0 : ((rlV s).length : Int).tmod 2 = 0 := by rw [Int.tmod_eq_emod_of_nonneg (by omega)]; unfold shapeOk at hsh; omega
      clear hsh hc1 hc2
      have r0 := B0.out.at' 0 _ rfl
      have r1 := B0.out.at' 1 _ rfl
      have r2 := B0.out.at' 2 _ rfl
      have r3 := B0.out.at' 3 _ rfl
      have f0 := B0.out.fr 0
      have f1 := B0.out.fr 1
      have f2 := B0.out.fr 2
      have f3 := B0.out.fr 3
      have l0 := B0.out.lt
      go_wp2
      refine bodyPost_ret (v := .tuple #[.agg #[.int .i64 0, .slice none 0 0, .int .i64 0, .int .i64 0], .bool false]) (by simp [results, Tryd.results12, go_sem, r0, r1, r2, r3, f0, f1, f2, f3, l0]) rfl ⟨_, by rw [HR.out.1], by rw [HR.out.2]; exact own_zeroR _ _ _, ?_⟩
      have hbw := HB1.out
      (repeat (first | with_reducible exact Below.refl _ _ | with_reducible exact hbw | (with_reducible refine Below.setCell ?_ ?_ _; rotate_left; · first | exact Nat.le_refl _ | omega | (simp; done) | (simp; omega)) | (with_reducible refine Below.alloc ?_ ?_ _; rotate_left; · first | exact Nat.le_refl _ | omega | (simp; done) | (simp; omega)) | with_reducible refine below_drewN ?_ _ | with_reducible refine Below.drew ?_))

end Go.Proofs.YtijhlllajddlpaaDoor
