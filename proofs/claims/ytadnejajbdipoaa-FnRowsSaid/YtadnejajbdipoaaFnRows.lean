/- The law FnRows returns true and leaves memory as it was. -/
import Derived.Test.YtadnejajbdipoaaFnRowsL
import Derived.Test.YtadnejajbdipoaaInvRow
import Derived.Test.YtadnejajbdipoaaCompI
import Derived.Test.YtadnejajbdipoaaOrd
import Derived.Test.YtadnejajbdipoaaRegT
import Derived.Test.YtadnejajbdipoaaKIntsEq
set_option linter.unusedSimpArgs false
set_option linter.unnecessarySimpa false
set_option linter.unusedVariables false
set_option maxRecDepth 100000
namespace Go.Proofs.Ytadnejajbdipoaa
open Go.RowKit

set_option maxHeartbeats 400000 in
theorem r8Same_any (v1 v2 : Value) (xs ys : List Int) (w : World) (h1 : Ints w v1 xs) (h2 : Ints w v2 ys) :
    Calls Try.prog 32 #[v1, v2] w fun e w' => e = .returned (.bool (decide (xs = ys))) ∧ Q w w' := by
  obtain ⟨a, ca, rfl, hca, hcm, _⟩ := id h1
  obtain ⟨b, cb, rfl, _, _, _⟩ := id h2
  by_cases hl : xs.length = ys.length
  · have hm : xs.length ≤ maxLen := by omega
    clear hca hcm
    unfold maxLen at hm
    have hl1 : ((xs.length : Int) != (ys.length : Int)) = false := by rw [hl]; simp
    have HL := Lib.hid hl; clear hl
    go_enter Try.func32, Try.ntmps32
    go_wp2
    go_loopw [5] (fun i wr => ∃ k : Nat, k ≤ xs.length ∧ i = .int .i64 k ∧ xs.take k = ys.take k ∧ Q w wr) (fun i _ => xs.length - (intOf i).toNat)
    case atStart => exact ⟨0, Nat.zero_le _, rfl, by simp, Q.refl _⟩
    case round =>
      obtain ⟨k, hk, rfl, ht, hq⟩ := hrel
      have HT := Lib.hid ht; clear ht
      by_cases hlt : k < xs.length
      · have hk2 : k < ys.length := by rw [← HL.out]; exact hlt
        obtain ⟨b1, o1, rfl, c1⟩ := (h1.q hq).cells (by simp; omega)
        obtain ⟨b2, o2, rfl, c2⟩ := (h2.q hq).cells (by simp; omega)
        have d1 : wr.cell? ⟨b1, o1 + k, none⟩ = some (.int .i64 xs[k]) := c1 k _ (by simp [hlt])
        have d2 : wr.cell? ⟨b2, o2 + k, none⟩ = some (.int .i64 ys[k]) := c2 k _ (by simp [hk2])
        clear c1 c2
        by_cases he : xs[k] = ys[k]
        · have e0 : (xs[k] != ys[k]) = false := by simpa using he
          have HE := Lib.hid e0; clear he
          go_wp2
          go_quiet (fail)
          go_wp2
          go_roundw
          case rel => exact ⟨k + 1, by omega, by go_num, take_step hlt hk2 HT.out HE.out, hq.drewN _⟩
          case measure => simp [intOf]; omega
        · have e0 : (xs[k] != ys[k]) = true := by simpa using he
          have HE := Lib.hid e0; clear he
          go_wp2
          go_quiet (fail)
          go_wp2
          go_ret
          exact ⟨ret_bool (by simpa using ne_of_get hlt hk2 HE.out), hq.drewN _⟩
      · go_wp2
        go_ret
        exact ⟨ret_bool (by simpa using eq_of_take HL.out hlt HT.out), hq⟩
  · have hl1 : ((xs.length : Int) != (ys.length : Int)) = true := by simp; omega
    have hne : xs ≠ ys := fun e => hl (by rw [e])
    clear hl
    go_enter Try.func32, Try.ntmps32
    go_wp2
    go_ret
    exact ⟨ret_bool (by simpa using hne), Q.refl _⟩

theorem r8SameB_any (b : Bool) (v1 v2 : Value) (xs ys : List Int) (w : World) (h1 : Ints w v1 xs) (h2 : Ints w v2 ys) (hb : b = decide (xs = ys)) :
    Calls Try.prog 32 #[v1, v2] w fun e w' => e = .returned (.bool b) ∧ Q w w' := by
  subst hb; exact r8Same_any v1 v2 xs ys w h1 h2

theorem R8Row_any (w : World) (v0 : Value) (x0 : List Int) (h0 : Byts w v0 x0) (o0 : okByts x0) :
    Calls Try.prog 26 #[v0] w fun e w' => ∃ (v' : Value) (xs : List Int), e = .returned v' ∧ RowOk xs ∧ OwnInts w.heap.size w'.heap.size w' v' xs ∧ Below w.heap.size w w' := by
  obtain ⟨a0, ca, rfl, _, _, _⟩ := id h0
  go_enter Try.func26, Try.ntmps26
  go_wp2_with fail
  refine (l00From_any a0 x0.length ca _).mono ?_
  rintro e w2 ⟨rfl, hs, hz2⟩
  have HS := Lib.hid hs
  have HB := Lib.hid hs.below
  have HZ := Lib.hid hz2
  clear hs hz2
  go_wp2_with fail
  refine (l27Draw_any w w.heap.size 0 (.slice a0 x0.length ca) x0 w2 h0 o0 HS.out (by omega)).mono ?_
  rintro e w3 ⟨v', xs, m, rfl, hok, own, _, _, _, ht⟩
  have HB3 := Lib.hid (ht.below HB.out (Nat.le_refl _) HB.out.size)
  go_wp2
  go_ret
  exact ⟨_, xs, rfl, hok, own.wide HB.out.size (Nat.le_refl _), HB3.out⟩

theorem row_ok64 {xs : List Int} (h : RowOk xs) : (∀ x ∈ xs, I64 x) ∧ xs.length ≤ 1048576 := by
  have hst := h.stage
  unfold stage at hst
  refine ⟨fun x hx => ?_, by omega⟩
  have := h.mem x hx
  simp only [I64, Lit.wf, IntKind.min, IntKind.max, IntKind.signed, IntKind.bits]; simp; omega
theorem i64_row {n : Nat} (h : n ≤ 1000) : I64 (n : Int) := by simp only [I64, Lit.wf, IntKind.min, IntKind.max, IntKind.signed, IntKind.bits]; simp; omega
theorem rows_facts {xs : List Int} (h : RowOk xs) : ∃ iv, invV xs = iv ∧ invC xs = 0 ∧ RowOk iv ∧ compV xs iv = rounds xs.length ∧ compC xs iv = 0 ∧ compV iv xs = rounds xs.length ∧ compC iv xs = 0 := by
  obtain ⟨h1, h2, h3⟩ := inv_row h
  have hl := invTo_len xs xs.length
  obtain ⟨e1, e2⟩ := iv_yes h
  obtain ⟨c1, c2⟩ := cp_yes h h1 hl.symm
  obtain ⟨d1, d2⟩ := cp_yes h1 h hl
  exact ⟨_, e1, e2, h1, by rw [c1, h2], c2, by rw [d1, h3], d2⟩

set_option maxHeartbeats 4000000 in
theorem lawRows (w : World) (v0 : Value) (x0 : List Int) (h0 : Byts w v0 x0) (o0 : okByts x0) :
    Calls Try.prog 8 #[v0] w fun e w' => e = .returned (.bool true) ∧ Below w.heap.size w w' := by
  obtain ⟨a0, ca, rfl, hca, hcm, _⟩ := id h0
  have hm : x0.length ≤ maxLen := by omega
  unfold maxLen at hm
  clear hca hcm
  by_cases gl : x0.length ≤ 1048576
  rotate_left
  · have d1 : decide (1048576 < (x0.length : Int)) = true := by simp; omega
    go_enter Try.func8, Try.ntmps8
    go_wp2
    go_ret
    exact ⟨rfl, Below.refl _ _⟩
  have d1 : decide (1048576 < (x0.length : Int)) = false := by simp; omega
  go_enter Try.func8, Try.ntmps8
  go_wp2_with fail
  refine (R8Row_any w _ x0 h0 o0).mono ?_
  rintro e w1 ⟨v1, xs, rfl, hok, own1, hb1⟩
  obtain ⟨a1, c1, rfl⟩ := own1.form
  have I1 := Lib.hid own1.rd
  have OK := Lib.hid hok
  have hst : stage xs.length := hok.stage
  have hn : xs.length ≤ 12 := by unfold stage at hst; omega
  have HB1 := Lib.hid hb1
  have O64 := Lib.hid (row_ok64 hok)
  have hz1 := hb1.size
  have ro : roundsOf (xs.length : Int) = rounds xs.length ∧ roundsCode (xs.length : Int) = 0 := by
    unfold roundsOf roundsCode; rw [if_pos hst, if_pos hst]; exact ⟨rfl, rfl⟩
  obtain ⟨iv, e1, e2, ivok, e3, e4, e5, e6⟩ := rows_facts hok
  obtain ⟨K, k1, k2, k3, _⟩ := ord_spec hok
  have k4 := (ord_le hok hn).2
  have kc : ordC xs = 0 := if_pos hok
  obtain ⟨t1, t2⟩ := read_text hok
  have FR := Lib.hid (fr_three hok)
  have ts : (rtV xs).size ≤ 1048576 := by rw [rt_yes hok]; show (textL xs).toArray.size ≤ _; simp [textL]; omega
  have rsok := row_rounds hst
  obtain ⟨rs, hrs⟩ : ∃ rs, rs = rounds xs.length := ⟨_, rfl⟩
  rw [← hrs] at ro e3 e5 k2 rsok FR
  have V64 := Lib.hid (row_ok64 ivok); have R64 := Lib.hid (row_ok64 rsok)
  have k5 : K + 1 ≤ 60 := by omega
  have RO := Lib.hid ro; have E1 := Lib.hid e1; have E2 := Lib.hid e2; have E3 := Lib.hid e3; have E4 := Lib.hid e4; have E5 := Lib.hid e5; have E6 := Lib.hid e6
  have K1 := Lib.hid k1; have K2 := Lib.hid k2; have K3 := Lib.hid (show ∀ j, j < K → ¬ pw xs j = rs from fun j hj => by rw [hrs]; exact k3 j hj); have KC := Lib.hid kc; have T1 := Lib.hid t1; have T2 := Lib.hid t2; have TS := Lib.hid ts; have HRS := Lib.hid hrs
  clear own1 hok hst hb1 d1 ro e1 e2 e3 e4 e5 e6 k1 k2 k3 k4 kc t1 t2 ts hrs ivok rsok
  go_wp2_with fail
  refine (specRoundsOf_any (xs.length : Int) _ (i64_row (by omega))).mono ?_
  rintro e w2 ⟨v2, rfl, own2, hb2⟩
  rw [RO.out.2]
  rw [RO.out.1] at own2
  obtain ⟨a2, c2, rfl⟩ := own2.form
  have I2 := Lib.hid own2.rd
  have I1 := Lib.hid (I1.out.mono hb2)
  have HB2 := Lib.hid (HB1.out.trans (hb2.mono hz1))
  have hz2 : w.heap.size ≤ w2.heap.size := HB2.out.size
  clear own2 hb2
  go_wp2_with fail
  refine (implInverseRow_any _ xs _ I1.out O64.out.1 O64.out.2).mono ?_
  rintro e w3 ⟨v3, rfl, own3, hb3⟩
  rw [E2.out]
  rw [E1.out] at own3
  obtain ⟨a3, c3, rfl⟩ := own3.form
  have I3 := Lib.hid own3.rd
  have I1 := Lib.hid (I1.out.mono hb3); have I2 := Lib.hid (I2.out.mono hb3)
  have HB3 := Lib.hid (HB2.out.trans (hb3.mono hz2))
  have hz3 : w.heap.size ≤ w3.heap.size := HB3.out.size
  clear own3 hb3
  go_wp2_with fail
  refine (implComposeRows_any _ xs _ iv _ I1.out O64.out.1 O64.out.2 I3.out V64.out.1 V64.out.2).mono ?_
  rintro e w4 ⟨v4, rfl, own4, hb4⟩
  rw [E4.out]
  rw [E3.out] at own4
  obtain ⟨a4, c4, rfl⟩ := own4.form
  have I4 := Lib.hid own4.rd
  have I1 := Lib.hid (I1.out.mono hb4); have I2 := Lib.hid (I2.out.mono hb4); have I3 := Lib.hid (I3.out.mono hb4)
  have HB4 := Lib.hid (HB3.out.trans (hb4.mono hz3))
  have hz4 : w.heap.size ≤ w4.heap.size := HB4.out.size
  clear own4 hb4
  go_wp2_with fail
  refine (implComposeRows_any _ iv _ xs _ I3.out V64.out.1 V64.out.2 I1.out O64.out.1 O64.out.2).mono ?_
  rintro e w5 ⟨v5, rfl, own5, hb5⟩
  rw [E6.out]
  rw [E5.out] at own5
  obtain ⟨a5, c5, rfl⟩ := own5.form
  have I5 := Lib.hid own5.rd
  have I1 := Lib.hid (I1.out.mono hb5); have I2 := Lib.hid (I2.out.mono hb5); have I4 := Lib.hid (I4.out.mono hb5)
  have HB5 := Lib.hid (HB4.out.trans (hb5.mono hz4))
  have hz5 : w.heap.size ≤ w5.heap.size := HB5.out.size
  clear own5 hb5
  go_wp2_with fail
  refine (implOrderOfRow_any _ xs _ I1.out O64.out.1 O64.out.2).mono ?_
  rintro e w6 ⟨rfl, hb6⟩
  rw [K1.out, KC.out]
  have I1 := Lib.hid (I1.out.mono hb6); have I2 := Lib.hid (I2.out.mono hb6); have I4 := Lib.hid (I4.out.mono hb6); have I5 := Lib.hid (I5.out.mono hb6)
  have HB6 := Lib.hid (HB5.out.trans (hb6.mono hz5))
  have hz6 : w.heap.size ≤ w6.heap.size := HB6.out.size
  clear hb6
  go_wp2_with fail
  refine (implRowText_any _ xs _ I1.out O64.out.1 O64.out.2).mono ?_
  rintro e w7 ⟨rfl, hb7⟩
  have I1 := Lib.hid (I1.out.mono hb7); have I2 := Lib.hid (I2.out.mono hb7); have I4 := Lib.hid (I4.out.mono hb7); have I5 := Lib.hid (I5.out.mono hb7)
  have HB7 := Lib.hid (HB6.out.trans (hb7.mono hz6))
  have hz7 : w.heap.size ≤ w7.heap.size := HB7.out.size
  clear hb7
  go_wp2_with fail
  refine (implReadRow_any (rtV xs) _ TS.out).mono ?_
  rintro e w8 ⟨v8, rfl, own8, hb8⟩
  rw [T2.out]
  rw [T1.out] at own8
  obtain ⟨a8, c8, rfl⟩ := own8.form
  have I8 := Lib.hid own8.rd
  have I1 := Lib.hid (I1.out.mono hb8); have I2 := Lib.hid (I2.out.mono hb8); have I4 := Lib.hid (I4.out.mono hb8); have I5 := Lib.hid (I5.out.mono hb8)
  have HB8 := Lib.hid (HB7.out.trans (hb8.mono hz7))
  have hz8 : w.heap.size ≤ w8.heap.size := HB8.out.size
  clear own8 hb8
  have dK1 : decide ((K : Int) + 1 < 1) = false := by simp; omega
  have dK2 : decide (60 < (K : Int) + 1) = false := by simp; omega
  go_wp2_with fail
  refine (r8SameB_any true _ _ rs rs _ I4.out I2.out (by simp)).mono ?_
  rintro e w9 ⟨rfl, hq9⟩
  have I1 := Lib.hid (I1.out.mono (hq9.below _)); have I2 := Lib.hid (I2.out.mono (hq9.below _)); have I5 := Lib.hid (I5.out.mono (hq9.below _)); have I8 := Lib.hid (I8.out.mono (hq9.below _))
  have HB9 := Lib.hid (HB8.out.trans ((hq9.below _).mono hz8))
  have hz9 : w.heap.size ≤ w9.heap.size := HB9.out.size
  clear hq9
  go_wp2_with fail
  refine (r8SameB_any true _ _ rs rs _ I5.out I2.out (by simp)).mono ?_
  rintro e w10 ⟨rfl, hq9⟩
  have I1 := Lib.hid (I1.out.mono (hq9.below _)); have I2 := Lib.hid (I2.out.mono (hq9.below _)); have I8 := Lib.hid (I8.out.mono (hq9.below _))
  have HB10 := Lib.hid (HB9.out.trans ((hq9.below _).mono hz9))
  have hz10 : w.heap.size ≤ w10.heap.size := HB10.out.size
  clear hq9
  go_wp2_with fail
  refine (r8SameB_any true _ _ xs xs _ I8.out I1.out (by simp)).mono ?_
  rintro e w11 ⟨rfl, hq9⟩
  have I1 := Lib.hid (I1.out.mono (hq9.below _)); have I2 := Lib.hid (I2.out.mono (hq9.below _))
  have HB11 := Lib.hid (HB10.out.trans ((hq9.below _).mono hz10))
  have hz11 : w.heap.size ≤ w11.heap.size := HB11.out.size
  clear hq9
  go_wp2_with (at_builtin; refine append_all rfl _ _ 24 rfl w11.heap.size 2 _ 1 8 Try.underlying24 info_int rfl (by decide) (.slice (some ⟨w11.heap.size, 0, none⟩) 0 0) 0 [] rfl (owns_empty w11 2 1 _ (Nat.le_refl _)) (.slice a1 xs.length c1) xs.length (xs.map (Value.int .i64)) rfl (Ints.mono I1.out (by (repeat (first | with_reducible exact Below.refl _ _ | with_reducible exact hbw | (with_reducible refine Below.setCell ?_ ?_ _; rotate_left; · first | exact Nat.le_refl _ | omega | (simp; done) | (simp; omega)) | (with_reducible refine Below.alloc ?_ ?_ _; rotate_left; · first | exact Nat.le_refl _ | omega | (simp; done) | (simp; omega)) | with_reducible refine below_drewN ?_ _ | with_reducible refine Below.drew ?_)))) (by simp) (ints_one xs) (by omega) (by decide) (by simp) ?_)
  intro a12 c12 w12 ho12 hg12 hb12
  have hb : Below w11.heap.size w11 w12 := Below.trans (by (repeat (first | with_reducible exact Below.refl _ _ | with_reducible exact hbw | (with_reducible refine Below.setCell ?_ ?_ _; rotate_left; · first | exact Nat.le_refl _ | omega | (simp; done) | (simp; omega)) | (with_reducible refine Below.alloc ?_ ?_ _; rotate_left; · first | exact Nat.le_refl _ | omega | (simp; done) | (simp; omega)) | with_reducible refine below_drewN ?_ _ | with_reducible refine Below.drew ?_))) hb12
  have I12 := Lib.hid (show RdInts w12 (.slice a12 (pw xs 0).length c12) (pw xs 0) from (OwnInts.mk' (xs := xs) ho12).rd)
  have I1 := Lib.hid (I1.out.mono hb); have I2 := Lib.hid (I2.out.mono hb)
  have HB12 := Lib.hid (HB11.out.trans (hb.mono hz11))
  have hz12 : w.heap.size ≤ w12.heap.size := HB12.out.size
  have PL := Lib.hid (pw_len xs)
  clear ho12 hg12 hb12 hb dK1 dK2
  go_wp2_with fail
  go_loopw [16, 17, 18, 19] (fun now k _ _ wr => ∃ (j : Nat) (a : Option Addr) (c : Nat), j ≤ K ∧ k = .int .i64 ((j : Int) + 1) ∧ now = .slice a xs.length c ∧ RdInts wr (.slice a (pw xs j).length c) (pw xs j) ∧ Below w12.heap.size w12 wr) (fun _ k _ _ _ => K + 1 - (intOf k).toNat)
  case atStart => exact ⟨0, a12, c12, Nat.zero_le _, by go_num, rfl, I12.out, Below.refl _ _⟩
  case round =>
    obtain ⟨j, a, c, hj, rfl, rfl, hnow, hb⟩ := hrel
    have IN := Lib.hid hnow
    rw [PL.out j] at hnow
    have I1 := Lib.hid (I1.out.mono hb); have I2 := Lib.hid (I2.out.mono hb)
    have HB := Lib.hid (HB12.out.trans (hb.mono hz12))
    have hzr := hb.size
    have IL := Lib.hid hnow
    clear hnow I12
    by_cases hlt : j < K
    · have dk : decide ((j : Int) + 1 < (K : Int) + 1) = true := by simp; omega
      have HBr := Lib.hid hb
      clear hb
      go_wp2_with fail
      refine (r8SameB_any false _ _ (pw xs j) rs _ IL.out I2.out (by rw [decide_eq_false (K3.out j hlt)])).mono ?_
      rintro e w13 ⟨rfl, hq⟩
      have hbq := hq.below wr.heap.size
      have I1 := Lib.hid (I1.out.mono hbq); have I2 := Lib.hid (I2.out.mono hbq); have IN := Lib.hid (IN.out.mono hbq)
      have P64 := Lib.hid (row_ok64 (pw_ok OK.out j))
      have CP := Lib.hid (cp_yes (pw_ok OK.out j) OK.out (pw_len xs j))
      have IL := Lib.hid (show RdInts w13 (.slice a xs.length c) (pw xs j) from by have := IN.out; rwa [PL.out j] at this)
      have HB13 := Lib.hid (HBr.out.trans (hbq.mono hzr))
      have hz13 := HB13.out.size
      have wj : IntKind.i64.wrap ((j : Int) + 1 + 1) = (j : Int) + 1 + 1 := IntWalk.i64_in _ (by omega)
      clear hbq hq
      go_wp2_with fail
      refine (specComposeRows_any _ (pw xs j) _ xs _ IL.out P64.out.1 P64.out.2 I1.out O64.out.1 O64.out.2).mono ?_
      rintro e w14 ⟨v14, rfl, own14, hb14⟩
      rw [CP.out.2]
      rw [CP.out.1] at own14
      have own14 : OwnInts w13.heap.size w14.heap.size w14 v14 (pw xs (j + 1)) := own14
      obtain ⟨a14, c14, rfl⟩ := own14.form
      have I14 := Lib.hid own14.rd
      have HB14 := Lib.hid (HB13.out.trans (hb14.mono hz13))
      rw [PL.out (j + 1)]
      clear own14 hb14
      go_wp2
      go_roundw
      case rel => exact ⟨j + 1, a14, c14, by omega, by go_num, rfl, I14.out, HB14.out⟩
      case measure => simp [intOf] <;> omega
    · obtain rfl : j = K := by omega
      clear hb
      have hrl : rs.length = xs.length := by rw [HRS.out, rounds_len]
      have hsz : szIntss [xs, rs, xs] ≤ 1048576 := by
        simp [szIntss, lenSum]; omega
      have HSZ := Lib.hid hsz
      clear hrl hsz
      have hzw : w.heap.size ≤ wr.heap.size := HB.out.size
      go_wp2_with fail
      have hal : Below wr.heap.size wr (wr.alloc (.cells #[.slice a1 xs.length c1, .slice a2 rs.length c2, .slice a1 xs.length c1] 24)) := by (repeat (first | with_reducible exact Below.refl _ _ | with_reducible exact hbw | (with_reducible refine Below.setCell ?_ ?_ _; rotate_left; · first | exact Nat.le_refl _ | omega | (simp; done) | (simp; omega)) | (with_reducible refine Below.alloc ?_ ?_ _; rotate_left; · first | exact Nat.le_refl _ | omega | (simp; done) | (simp; omega)) | with_reducible refine below_drewN ?_ _ | with_reducible refine Below.drew ?_))
      refine (implFirstRepeat_any _ [xs, rs, xs] _ ⟨[(.slice a1 xs.length c1, xs), (.slice a2 rs.length c2, rs), (.slice a1 xs.length c1, xs)], rfl, sl_lit wr [.slice a1 xs.length c1, .slice a2 rs.length c2, .slice a1 xs.length c1] 24 3 wr.heap.size rfl (by simp [maxLen]), ?_⟩ ?_ HSZ.out).mono ?_
      · intro y hy
        simp only [List.mem_cons, List.not_mem_nil, or_false] at hy
        rcases hy with rfl | rfl | rfl
        · exact I1.out.mono hal
        · exact I2.out.mono hal
        · exact I1.out.mono hal
      · intro x hx
        simp only [List.mem_cons, List.not_mem_nil, or_false] at hx
        rcases hx with rfl | rfl | rfl
        · exact O64.out.1
        · exact R64.out.1
        · exact O64.out.1
      rintro e w13 ⟨rfl, hb13⟩
      have hbw : Below wr.heap.size wr w13 := hal.trans (hb13.mono (by simp))
      have I1 := Lib.hid (I1.out.mono hbw); have I2 := Lib.hid (I2.out.mono hbw); have IL := Lib.hid (Ints.mono IL.out hbw)
      have HB13 := Lib.hid (HB.out.trans (hbw.mono hzw))
      have hz13 := HB13.out.size
      rw [FR.out.1, FR.out.2]
      clear hal hb13 hbw
      by_cases g : xs = rs
      · rw [if_pos g]
        have G := Lib.hid g
        clear g
        go_wp2_with fail
        refine (r8SameB_any true _ _ (pw xs j) rs _ IL.out I2.out (by rw [K2.out]; simp)).mono ?_
        rintro e w14 ⟨rfl, hq⟩
        have I1 := Lib.hid (I1.out.mono (hq.below _)); have I2 := Lib.hid (I2.out.mono (hq.below _))
        have HB14 := Lib.hid (HB13.out.trans ((hq.below _).mono hz13))
        have hz14 := HB14.out.size
        clear hq
        go_wp2_with fail
        refine (r8SameB_any true _ _ xs rs _ I1.out I2.out (yesB G.out)).mono ?_
        rintro e w15 ⟨rfl, hq⟩
        go_wp2
        go_ret
        exact ⟨rfl, HB14.out.trans ((hq.below _).mono hz14)⟩
      · rw [if_neg g]
        have G := Lib.hid g
        clear g
        go_wp2_with fail
        refine (r8SameB_any true _ _ (pw xs j) rs _ IL.out I2.out (by rw [K2.out]; simp)).mono ?_
        rintro e w14 ⟨rfl, hq⟩
        have I1 := Lib.hid (I1.out.mono (hq.below _)); have I2 := Lib.hid (I2.out.mono (hq.below _))
        have HB14 := Lib.hid (HB13.out.trans ((hq.below _).mono hz13))
        have hz14 := HB14.out.size
        clear hq
        go_wp2_with fail
        refine (r8SameB_any false _ _ xs rs _ I1.out I2.out (noB G.out)).mono ?_
        rintro e w15 ⟨rfl, hq⟩
        have I1 := Lib.hid (I1.out.mono (hq.below _)); have I2 := Lib.hid (I2.out.mono (hq.below _))
        have HB15 := Lib.hid (HB14.out.trans ((hq.below _).mono hz14))
        have hz15 := HB15.out.size
        clear hq
        go_wp2_with fail
        refine (r8SameB_any false _ _ xs rs _ I1.out I2.out (noB G.out)).mono ?_
        rintro e w16 ⟨rfl, hq⟩
        go_wp2
        go_ret
        exact ⟨rfl, HB15.out.trans ((hq.below _).mono hz15)⟩

end Go.Proofs.Ytadnejajbdipoaa
