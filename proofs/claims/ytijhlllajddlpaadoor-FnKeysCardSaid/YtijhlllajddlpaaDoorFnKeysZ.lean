/- The law FnKeys returns true and leaves memory as it was. -/
import Derived.Test.YtijhlllajddlpaaDoorKeysZ2
import Derived.Test.YtijhlllajddlpaaDoorKeysL
import Derived.Test.YtijhlllajddlpaaDoorRatio
import Derived.Test.YtijhlllajddlpaaDoorKeysZ1
set_option linter.unusedSimpArgs false
set_option linter.unnecessarySimpa false
set_option linter.unusedVariables false
set_option maxRecDepth 100000
namespace Go.Proofs.YtijhlllajddlpaaDoor
open Go.RowKit

theorem i64_smK {n : Int} (h : smN n) : I64 n := by unfold smN at h; simp only [I64, Lit.wf, IntKind.min, IntKind.max, IntKind.signed, IntKind.bits]; simp; omega
theorem sm_okA {x : ActD} (h : smA x) : x.ok := ⟨i64_smK h.note, i64_smK h.slack, i64_smK h.weight, fun l hl => ⟨i64_smK (h.levs l hl).1, i64_smK (h.levs l hl).2⟩⟩
theorem actT_size {x : ActD} : (actT x).size ≤ 1048576 := by
  cases h : validActB x with
  | false => rw [actT_no h, bytesB_size]; simp
  | true =>
    have ok : ActOk x := by simpa [validActB] using h
    have hl := ok.len
    have hlen := actL_len x x.levs.length (Nat.le_refl _)
    rw [actT_yes h]
    unfold listU
    split
    · rw [bytesB_size]; simp
    · rw [bytesB_size]
      have := commaT_len (actL x x.levs.length) (fun n hn => i64_val (actL_vals ok n hn))
      omega
theorem travel_bd {x : ActD} {g : Int} (h : travelC x g = 0) : 0 ≤ travelV x g ∧ travelV x g ≤ 100000 := by
  have := (motion_inv (travel_least h).1).2.1
  exact this


set_option maxHeartbeats 4000000 in
theorem lawKeys (w : World) (v0 : Value) (x0 : List Int) (h0 : Byts w v0 x0) (o0 : okByts x0) (v1 : Value) (x1 : List Int) (h1 : Byts w v1 x1) (o1 : okByts x1) (ht : Lay w) :
    Calls Tryd.prog 5 #[v0, v1] w fun e w' => e = .returned (.bool true) ∧ Below w.heap.size w w' := by
  obtain ⟨a0, ca, rfl, hca, hcm, _⟩ := id h0
  obtain ⟨b0, cb, rfl, hcb, hcm2, _⟩ := id h1
  have hm : x0.length ≤ maxLen := by omega
  have hm2 : x1.length ≤ maxLen := by omega
  unfold maxLen at hm hm2
  clear hca hcm hcb hcm2
  by_cases gl : x0.length ≤ 1048576
  rotate_left
  · have d1 : decide (1048576 < (x0.length : Int)) = true := by simp; omega
    go_enter Tryd.func5, Tryd.ntmps5
    go_wp2_with fail
    refine (b10Long_any a0 x0.length ca _ (by omega)).mono ?_
    rintro e w' ⟨rfl, rfl⟩
    go_wp2
    go_ret
    exact ⟨rfl, Below.refl _ _⟩
  have d1 : decide (1048576 < (x0.length : Int)) = false := by simp; omega
  by_cases gl2 : x1.length ≤ 1048576
  rotate_left
  · have d2 : decide (1048576 < (x1.length : Int)) = true := by simp; omega
    go_enter Tryd.func5, Tryd.ntmps5
    go_wp2_with fail
    refine (b10Long_any a0 x0.length ca _ (by omega)).mono ?_
    rintro e w' ⟨rfl, rfl⟩
    go_wp2_with fail
    refine (b10Long_any b0 x1.length cb _ (by omega)).mono ?_
    rintro e w' ⟨rfl, rfl⟩
    go_wp2
    go_ret
    exact ⟨rfl, Below.refl _ _⟩
  have d2 : decide (1048576 < (x1.length : Int)) = false := by simp; omega
  have HY := Lib.hid h1
  have HLY := Lib.hid ht
  go_enter Tryd.func5, Tryd.ntmps5
  go_wp2_with fail
  refine (b10Long_any a0 x0.length ca _ (by omega)).mono ?_
  rintro e w' ⟨rfl, rfl⟩
  go_wp2_with fail
  refine (b10Long_any b0 x1.length cb _ (by omega)).mono ?_
  rintro e w' ⟨rfl, rfl⟩
  go_wp2_with fail
  refine (DrawTravelFor_any w _ x0 h0 o0).mono ?_
  rintro e w1 ⟨v, x, g, rfl, hown, hsm, hg, hb1⟩
  obtain ⟨a1, c1, rfl⟩ := hown.form
  have RD := Lib.hid hown.rd
  have OK := Lib.hid (sm_okA hsm)
  have HLN := hsm.len
  have HLE : x.levs.length ≤ 1048576 := by omega
  have HG := Lib.hid (i64_smK hg)
  have HGB := Lib.hid hg
  have HB1 := Lib.hid hb1
  have hz1 := hb1.size
  clear hown hsm hg hb1 d1 d2 h0 h1 ht
  obtain ⟨q, hq⟩ : ∃ q, q = w1.heap.size := ⟨_, rfl⟩
  have BQ := Lib.hid (Box.alloc w1 [.int .i64 x.note, .slice a1 x.levs.length c1, .int .i64 x.slack, .int .i64 x.weight] 29 q hq.symm)
  have HB2 := Lib.hid (HB1.out.trans ((belowA w1 (.cells #[.int .i64 x.note, .slice a1 x.levs.length c1, .int .i64 x.slack, .int .i64 x.weight] 29)).mono hz1))
  have RD := Lib.hid (RD.out.mono (belowA w1 (.cells #[.int .i64 x.note, .slice a1 x.levs.length c1, .int .i64 x.slack, .int .i64 x.weight] 29)))
  have hqw : w.heap.size ≤ q := by omega
  go_wp2_with fail
  rw [← hq]
  clear hq
  refine (implTravelFor_any _ x g _ RD.out OK.out HLE HG.out).mono ?_
  rintro e w2 ⟨rfl, hb2⟩
  have BQ := Lib.hid (BQ.out.mono hb2)
  have RD := Lib.hid (RD.out.mono hb2)
  have HB2 := Lib.hid (HB2.out.trans (hb2.mono HB2.out.size))
  have u0 := BQ.out.at' 0 _ rfl
  have u1 := BQ.out.at' 1 _ rfl
  have u2 := BQ.out.at' 2 _ rfl
  have u3 := BQ.out.at' 3 _ rfl
  have hq2 := BQ.out.lt
  clear hb2
  go_wp2_with fail
  refine (implActionText_any _ x _ RD.out OK.out HLE (HLY.out.mono HB2.out).tab).mono ?_
  rintro e w3 ⟨rfl, hb3⟩
  have BQ := Lib.hid (BQ.out.mono hb3)
  have RD := Lib.hid (RD.out.mono hb3)
  have HB3 := Lib.hid (HB2.out.trans (hb3.mono HB2.out.size))
  have hz3 := hb3.size
  clear hb3
  go_wp2_with fail
  refine (implReadAction_any (actT x) _ actT_size (HLY.out.mono HB3.out)).mono ?_
  rintro e w4 ⟨v, rfl, hown, hb4⟩
  obtain ⟨a2, c2, rfl⟩ := hown.form
  have BQ := Lib.hid (BQ.out.mono hb4)
  have RD := Lib.hid (RD.out.mono hb4)
  have RY := Lib.hid hown.rd
  have HB4 := Lib.hid (HB3.out.trans (hb4.mono HB3.out.size))
  have hz4 := hb4.size
  clear hb4 hown u0 u1 u2 u3 hq2
  have u0 := BQ.out.at' 0 _ rfl
  have u1 := BQ.out.at' 1 _ rfl
  have u2 := BQ.out.at' 2 _ rfl
  have u3 := BQ.out.at' 3 _ rfl
  have hq4 := BQ.out.lt
  have RD5 := Lib.hid (RD.out.mono (belowA w4 (.cells #[.int .i64 (rdV (actT x)).note, .slice a2 (rdV (actT x)).levs.length c2, .int .i64 (rdV (actT x)).slack, .int .i64 (rdV (actT x)).weight] 29)))
  have RY5 := Lib.hid (RY.out.mono (belowA w4 (.cells #[.int .i64 (rdV (actT x)).note, .slice a2 (rdV (actT x)).levs.length c2, .int .i64 (rdV (actT x)).slack, .int .i64 (rdV (actT x)).weight] 29)))
  have BQ5 := Lib.hid (BQ.out.mono (belowA w4 (.cells #[.int .i64 (rdV (actT x)).note, .slice a2 (rdV (actT x)).levs.length c2, .int .i64 (rdV (actT x)).slack, .int .i64 (rdV (actT x)).weight] 29)))
  have HB5 := Lib.hid (HB4.out.trans ((belowA w4 (.cells #[.int .i64 (rdV (actT x)).note, .slice a2 (rdV (actT x)).levs.length c2, .int .i64 (rdV (actT x)).slack, .int .i64 (rdV (actT x)).weight] 29)).mono HB4.out.size))
  cases hv : validActB x
  · have e1 := act_unread hv
    have e2 := travel_inv (g := g) hv
    rw [e1, ← e2.1, ← e2.2]
    have HV := Lib.hid hv
    clear hv e1 e2
    go_wp2_with fail
    refine (specValidAction_any _ x _ RD5.out OK.out HLE).mono ?_
    rw [HV.out]
    rintro e w5 ⟨rfl, hb5⟩
    have HBr := Lib.hid (HB5.out.trans (hb5.mono HB5.out.size))
    clear hb5
    go_wp2_with fail
    refine (DrawMotionAt_any _ _ x1 (HY.out.mono HBr.out) o1).mono ?_
    rintro e k1 ⟨v, y, t, rfl, hown, hsm, ht, hb1⟩
    obtain ⟨a5, c5, rfl⟩ := hown.form
    have RE := Lib.hid hown.rd
    have OE := Lib.hid (sm_okA hsm)
    have HLF : y.levs.length ≤ 1048576 := by have := hsm.len; omega
    have IT := Lib.hid (i64_smK ht)
    have HTB : -1 ≤ t ∧ t ≤ 2000000 := ht
    have IT1 := Lib.hid (show 0 < t → I64 (t - 1) from fun h => i64_smK (by unfold smN; omega))
    have zk := hb1.size
    have HK1 := Lib.hid (HBr.out.trans (hb1.mono HBr.out.size))
    clear hown hsm hb1 ht
    obtain ⟨qq, hqq⟩ : ∃ q, q = k1.heap.size := ⟨_, rfl⟩
    have BE := Lib.hid (Box.alloc k1 [.int .i64 y.note, .slice a5 y.levs.length c5, .int .i64 y.slack, .int .i64 y.weight] 29 qq hqq.symm)
    have HK2 := Lib.hid (HK1.out.trans ((belowA k1 (.cells #[.int .i64 y.note, .slice a5 y.levs.length c5, .int .i64 y.slack, .int .i64 y.weight] 29)).mono HK1.out.size))
    have RE := Lib.hid (RE.out.mono (belowA k1 (.cells #[.int .i64 y.note, .slice a5 y.levs.length c5, .int .i64 y.slack, .int .i64 y.weight] 29)))
    go_wp2_with fail
    rw [← hqq]
    clear hqq
    refine (implMotionAt_any _ y t _ RE.out OE.out HLF IT.out).mono ?_
    rintro e k2 ⟨rfl, hb2⟩
    have BE := Lib.hid (BE.out.mono hb2)
    have RE := Lib.hid (RE.out.mono hb2)
    have HK2 := Lib.hid (HK2.out.trans (hb2.mono HK2.out.size))
    have u0 := BE.out.at' 0 _ rfl
    have u1 := BE.out.at' 1 _ rfl
    have u2 := BE.out.at' 2 _ rfl
    have u3 := BE.out.at' 3 _ rfl
    have l2 := BE.out.lt
    clear hb2
    go_wp2_with fail
    refine (implRatioOf_any _ y _ RE.out OE.out HLF).mono ?_
    rintro e k3 ⟨rfl, hb3⟩
    have BE := Lib.hid (BE.out.mono hb3)
    have RE := Lib.hid (RE.out.mono hb3)
    have HK3 := Lib.hid (HK2.out.trans (hb3.mono HK2.out.size))
    clear hb3 u0 u1 u2 u3 l2
    have u0 := BE.out.at' 0 _ rfl
    have u1 := BE.out.at' 1 _ rfl
    have u2 := BE.out.at' 2 _ rfl
    have u3 := BE.out.at' 3 _ rfl
    have l2 := BE.out.lt
    by_cases hC : motionAtC y t = 0
    rotate_left
    · have hV := motion_bad hC
      have dC : (motionAtC y t != 0) = true := by simpa using hC
      rw [hV]
      clear hV hC
      go_wp2
      go_ret
      exact ⟨rfl, HK3.out⟩
    have MS := Lib.hid (fun h => motion_slack (x := y) (t := t) hC h)
    have ML := Lib.hid (fun h => motion_less (x := y) (t := t) hC h)
    rw [hC]
    clear hC
    obtain ⟨mv, hmv⟩ : ∃ m, m = motionAtV y t := ⟨_, rfl⟩
    rw [← hmv] at MS ML ⊢
    clear hmv
    have S1 : (decide (t ≤ y.slack) && (mv != 0)) = false := by
      by_cases h : t ≤ y.slack
      · rw [MS.out h]; simp
      · simp [h]
    have RP := Lib.hid (fun h => ratio_pos (x := y) h)
    obtain ⟨rt, hrt⟩ : ∃ m, m = raT y := ⟨_, rfl⟩
    obtain ⟨rb, hrb⟩ : ∃ m, m = raB y := ⟨_, rfl⟩
    obtain ⟨rc, hrc⟩ : ∃ m, m = raC y := ⟨_, rfl⟩
    rw [← hrt, ← hrb, ← hrc] at RP ⊢
    clear hrt hrb hrc
    by_cases hs : t ≤ y.slack
    · have hmv0 := MS.out hs
      have e1 : decide (t ≤ y.slack) = true := decide_eq_true hs
      have e2 : (mv != 0) = false := by rw [hmv0]; rfl
      clear hmv0 hs S1
      by_cases hrc : rc = 0
      · have hrp := RP.out hrc
        have e3 : (rc == 0) = true := by simpa using hrc
        have e4 : decide (rt < 1) = false := by simp; omega
        have e5 : decide (rb < 1) = false := by simp; omega
        clear hrp hrc
        by_cases htp : 0 < t
        · have e6 : decide (0 < t) = true := decide_eq_true htp
          have hl := ML.out htp
          have HL1 := Lib.hid hl.1
          have e7 : decide (motionAtV y (t - 1) ≤ mv) = true := decide_eq_true hl.2
          have HI1 := Lib.hid (IT1.out htp)
          have wt : IntKind.i64.wrap (t - 1) = t - 1 := IntWalk.i64_in _ (by omega)
          clear hl
          go_wp2_with fail
          refine (implMotionAt_any _ y (t - 1) _ RE.out OE.out HLF HI1.out).mono ?_
          rw [HL1.out]
          rintro e k4 ⟨rfl, hb4⟩
          have HK4 := Lib.hid (HK3.out.trans (hb4.mono HK3.out.size))
          clear hb4
          go_wp2
          go_ret
          exact ⟨rfl, HK4.out⟩
        · have e6 : decide (0 < t) = false := decide_eq_false htp
          go_wp2
          go_ret
          exact ⟨rfl, HK3.out⟩
      · have e3 : (rc == 0) = false := by simpa using hrc
        clear hrc
        by_cases htp : 0 < t
        · have e6 : decide (0 < t) = true := decide_eq_true htp
          have hl := ML.out htp
          have HL1 := Lib.hid hl.1
          have e7 : decide (motionAtV y (t - 1) ≤ mv) = true := decide_eq_true hl.2
          have HI1 := Lib.hid (IT1.out htp)
          have wt : IntKind.i64.wrap (t - 1) = t - 1 := IntWalk.i64_in _ (by omega)
          clear hl
          go_wp2_with fail
          refine (implMotionAt_any _ y (t - 1) _ RE.out OE.out HLF HI1.out).mono ?_
          rw [HL1.out]
          rintro e k4 ⟨rfl, hb4⟩
          have HK4 := Lib.hid (HK3.out.trans (hb4.mono HK3.out.size))
          clear hb4
          go_wp2
          go_ret
          exact ⟨rfl, HK4.out⟩
        · have e6 : decide (0 < t) = false := decide_eq_false htp
          go_wp2
          go_ret
          exact ⟨rfl, HK3.out⟩
    · have e1 : decide (t ≤ y.slack) = false := decide_eq_false hs
      clear hs S1
      by_cases hrc : rc = 0
      · have hrp := RP.out hrc
        have e3 : (rc == 0) = true := by simpa using hrc
        have e4 : decide (rt < 1) = false := by simp; omega
        have e5 : decide (rb < 1) = false := by simp; omega
        clear hrp hrc
        by_cases htp : 0 < t
        · have e6 : decide (0 < t) = true := decide_eq_true htp
          have hl := ML.out htp
          have HL1 := Lib.hid hl.1
          have e7 : decide (motionAtV y (t - 1) ≤ mv) = true := decide_eq_true hl.2
          have HI1 := Lib.hid (IT1.out htp)
          have wt : IntKind.i64.wrap (t - 1) = t - 1 := IntWalk.i64_in _ (by omega)
          clear hl
          go_wp2_with fail
          refine (implMotionAt_any _ y (t - 1) _ RE.out OE.out HLF HI1.out).mono ?_
          rw [HL1.out]
          rintro e k4 ⟨rfl, hb4⟩
          have HK4 := Lib.hid (HK3.out.trans (hb4.mono HK3.out.size))
          clear hb4
          go_wp2
          go_ret
          exact ⟨rfl, HK4.out⟩
        · have e6 : decide (0 < t) = false := decide_eq_false htp
          go_wp2
          go_ret
          exact ⟨rfl, HK3.out⟩
      · have e3 : (rc == 0) = false := by simpa using hrc
        clear hrc
        by_cases htp : 0 < t
        · have e6 : decide (0 < t) = true := decide_eq_true htp
          have hl := ML.out htp
          have HL1 := Lib.hid hl.1
          have e7 : decide (motionAtV y (t - 1) ≤ mv) = true := decide_eq_true hl.2
          have HI1 := Lib.hid (IT1.out htp)
          have wt : IntKind.i64.wrap (t - 1) = t - 1 := IntWalk.i64_in _ (by omega)
          clear hl
          go_wp2_with fail
          refine (implMotionAt_any _ y (t - 1) _ RE.out OE.out HLF HI1.out).mono ?_
          rw [HL1.out]
          rintro e k4 ⟨rfl, hb4⟩
          have HK4 := Lib.hid (HK3.out.trans (hb4.mono HK3.out.size))
          clear hb4
          go_wp2
          go_ret
          exact ⟨rfl, HK4.out⟩
        · have e6 : decide (0 < t) = false := decide_eq_false htp
          go_wp2
          go_ret
          exact ⟨rfl, HK3.out⟩
  · have e1 := act_read hv
    have HV := Lib.hid hv
    rw [e1.2] at RD5 RY5 BQ5 HB5
    rw [e1.1, e1.2]
    have BY5 := Lib.hid (Box.alloc w4 [.int .i64 x.note, .slice a2 x.levs.length c2, .int .i64 x.slack, .int .i64 x.weight] 29 w4.heap.size rfl)
    clear hv e1
    go_wp2_with fail
    refine (specValidAction_any _ x _ RD5.out OK.out HLE).mono ?_
    rw [HV.out]
    rintro e w5 ⟨rfl, hb5⟩
    have BQ6 := Lib.hid (BQ5.out.mono hb5)
    have BY6 := Lib.hid (BY5.out.mono hb5)
    have RD6 := Lib.hid (RD5.out.mono hb5)
    have RY6 := Lib.hid (RY5.out.mono hb5)
    have HB6 := Lib.hid (HB5.out.trans (hb5.mono HB5.out.size))
    clear hb5 u0 u1 u2 u3 hq4
    have u0 := BQ6.out.at' 0 _ rfl
    have u1 := BQ6.out.at' 1 _ rfl
    have u2 := BQ6.out.at' 2 _ rfl
    have u3 := BQ6.out.at' 3 _ rfl
    have hq6 := BQ6.out.lt
    have y0 := BY6.out.at' 0 _ rfl
    have y1 := BY6.out.at' 1 _ rfl
    have y2 := BY6.out.at' 2 _ rfl
    have y3 := BY6.out.at' 3 _ rfl
    have hy6 := BY6.out.lt
    obtain ⟨l1, A1⟩ := RY6.out
    obtain ⟨l2, A2⟩ := RD6.out
    have A1 := Lib.hid A1
    have A2 := Lib.hid A2
    go_wp2_with fail
    refine (implSameAct_any _ l1 _ l2 x x _ A1.out A2.out).mono ?_
    rw [show decide (x = x) = true from decide_eq_true rfl]
    rintro e w6 ⟨rfl, hb6⟩
    have BQ7 := Lib.hid (BQ6.out.mono hb6)
    have RD7 := Lib.hid (RD6.out.mono hb6)
    have HB7 := Lib.hid (HB6.out.trans (hb6.mono HB6.out.size))
    clear hb6 u0 u1 u2 u3 hq6 y0 y1 y2 y3 hy6 A1 A2 RY6 BY6
    by_cases hC : travelC x g = 0
    rotate_left
    · have dC : (travelC x g == 0) = false := by simpa using hC
      obtain ⟨tc, htc⟩ : ∃ c, c = travelC x g := ⟨_, rfl⟩
      rw [← htc] at dC ⊢
      clear hC htc
      go_wp2_with fail
      refine (DrawMotionAt_any _ _ x1 (HY.out.mono HB7.out) o1).mono ?_
      rintro e k1 ⟨v, y, t, rfl, hown, hsm, ht, hb1⟩
      obtain ⟨a5, c5, rfl⟩ := hown.form
      have RE := Lib.hid hown.rd
      have OE := Lib.hid (sm_okA hsm)
      have HLF : y.levs.length ≤ 1048576 := by have := hsm.len; omega
      have IT := Lib.hid (i64_smK ht)
      have HTB : -1 ≤ t ∧ t ≤ 2000000 := ht
      have IT1 := Lib.hid (show 0 < t → I64 (t - 1) from fun h => i64_smK (by unfold smN; omega))
      have zk := hb1.size
      have HK1 := Lib.hid (HB7.out.trans (hb1.mono HB7.out.size))
      clear hown hsm hb1 ht
      obtain ⟨qq, hqq⟩ : ∃ q, q = k1.heap.size := ⟨_, rfl⟩
      have BE := Lib.hid (Box.alloc k1 [.int .i64 y.note, .slice a5 y.levs.length c5, .int .i64 y.slack, .int .i64 y.weight] 29 qq hqq.symm)
      have HK2 := Lib.hid (HK1.out.trans ((belowA k1 (.cells #[.int .i64 y.note, .slice a5 y.levs.length c5, .int .i64 y.slack, .int .i64 y.weight] 29)).mono HK1.out.size))
      have RE := Lib.hid (RE.out.mono (belowA k1 (.cells #[.int .i64 y.note, .slice a5 y.levs.length c5, .int .i64 y.slack, .int .i64 y.weight] 29)))
      go_wp2_with fail
      rw [← hqq]
      clear hqq
      refine (implMotionAt_any _ y t _ RE.out OE.out HLF IT.out).mono ?_
      rintro e k2 ⟨rfl, hb2⟩
      have BE := Lib.hid (BE.out.mono hb2)
      have RE := Lib.hid (RE.out.mono hb2)
      have HK2 := Lib.hid (HK2.out.trans (hb2.mono HK2.out.size))
      have u0 := BE.out.at' 0 _ rfl
      have u1 := BE.out.at' 1 _ rfl
      have u2 := BE.out.at' 2 _ rfl
      have u3 := BE.out.at' 3 _ rfl
      have l2 := BE.out.lt
      clear hb2
      go_wp2_with fail
      refine (implRatioOf_any _ y _ RE.out OE.out HLF).mono ?_
      rintro e k3 ⟨rfl, hb3⟩
      have BE := Lib.hid (BE.out.mono hb3)
      have RE := Lib.hid (RE.out.mono hb3)
      have HK3 := Lib.hid (HK2.out.trans (hb3.mono HK2.out.size))
      clear hb3 u0 u1 u2 u3 l2
      have u0 := BE.out.at' 0 _ rfl
      have u1 := BE.out.at' 1 _ rfl
      have u2 := BE.out.at' 2 _ rfl
      have u3 := BE.out.at' 3 _ rfl
      have l2 := BE.out.lt
      by_cases hC : motionAtC y t = 0
      rotate_left
      · have hV := motion_bad hC
        have dC : (motionAtC y t != 0) = true := by simpa using hC
        rw [hV]
        clear hV hC
        go_wp2
        go_ret
        exact ⟨rfl, HK3.out⟩
      have MS := Lib.hid (fun h => motion_slack (x := y) (t := t) hC h)
      have ML := Lib.hid (fun h => motion_less (x := y) (t := t) hC h)
      rw [hC]
      clear hC
      obtain ⟨mv, hmv⟩ : ∃ m, m = motionAtV y t := ⟨_, rfl⟩
      rw [← hmv] at MS ML ⊢
      clear hmv
      have S1 : (decide (t ≤ y.slack) && (mv != 0)) = false := by
        by_cases h : t ≤ y.slack
        · rw [MS.out h]; simp
        · simp [h]
      have RP := Lib.hid (fun h => ratio_pos (x := y) h)
      obtain ⟨rt, hrt⟩ : ∃ m, m = raT y := ⟨_, rfl⟩
      obtain ⟨rb, hrb⟩ : ∃ m, m = raB y := ⟨_, rfl⟩
      obtain ⟨rc, hrc⟩ : ∃ m, m = raC y := ⟨_, rfl⟩
      rw [← hrt, ← hrb, ← hrc] at RP ⊢
      clear hrt hrb hrc
      by_cases hs : t ≤ y.slack
      · have hmv0 := MS.out hs
        have e1 : decide (t ≤ y.slack) = true := decide_eq_true hs
        have e2 : (mv != 0) = false := by rw [hmv0]; rfl
        clear hmv0 hs S1
        by_cases hrc : rc = 0
        · have hrp := RP.out hrc
          have e3 : (rc == 0) = true := by simpa using hrc
          have e4 : decide (rt < 1) = false := by simp; omega
          have e5 : decide (rb < 1) = false := by simp; omega
          clear hrp hrc
          by_cases htp : 0 < t
          · have e6 : decide (0 < t) = true := decide_eq_true htp
            have hl := ML.out htp
            have HL1 := Lib.hid hl.1
            have e7 : decide (motionAtV y (t - 1) ≤ mv) = true := decide_eq_true hl.2
            have HI1 := Lib.hid (IT1.out htp)
            have wt : IntKind.i64.wrap (t - 1) = t - 1 := IntWalk.i64_in _ (by omega)
            clear hl
            go_wp2_with fail
            refine (implMotionAt_any _ y (t - 1) _ RE.out OE.out HLF HI1.out).mono ?_
            rw [HL1.out]
            rintro e k4 ⟨rfl, hb4⟩
            have HK4 := Lib.hid (HK3.out.trans (hb4.mono HK3.out.size))
            clear hb4
            go_wp2
            go_ret
            exact ⟨rfl, HK4.out⟩
          · have e6 : decide (0 < t) = false := decide_eq_false htp
            go_wp2
            go_ret
            exact ⟨rfl, HK3.out⟩
        · have e3 : (rc == 0) = false := by simpa using hrc
          clear hrc
          by_cases htp : 0 < t
          · have e6 : decide (0 < t) = true := decide_eq_true htp
            have hl := ML.out htp
            have HL1 := Lib.hid hl.1
            have e7 : decide (motionAtV y (t - 1) ≤ mv) = true := decide_eq_true hl.2
            have HI1 := Lib.hid (IT1.out htp)
            have wt : IntKind.i64.wrap (t - 1) = t - 1 := IntWalk.i64_in _ (by omega)
            clear hl
            go_wp2_with fail
            refine (implMotionAt_any _ y (t - 1) _ RE.out OE.out HLF HI1.out).mono ?_
            rw [HL1.out]
            rintro e k4 ⟨rfl, hb4⟩
            have HK4 := Lib.hid (HK3.out.trans (hb4.mono HK3.out.size))
            clear hb4
            go_wp2
            go_ret
            exact ⟨rfl, HK4.out⟩
          · have e6 : decide (0 < t) = false := decide_eq_false htp
            go_wp2
            go_ret
            exact ⟨rfl, HK3.out⟩
      · have e1 : decide (t ≤ y.slack) = false := decide_eq_false hs
        clear hs S1
        by_cases hrc : rc = 0
        · have hrp := RP.out hrc
          have e3 : (rc == 0) = true := by simpa using hrc
          have e4 : decide (rt < 1) = false := by simp; omega
          have e5 : decide (rb < 1) = false := by simp; omega
          clear hrp hrc
          by_cases htp : 0 < t
          · have e6 : decide (0 < t) = true := decide_eq_true htp
            have hl := ML.out htp
            have HL1 := Lib.hid hl.1
            have e7 : decide (motionAtV y (t - 1) ≤ mv) = true := decide_eq_true hl.2
            have HI1 := Lib.hid (IT1.out htp)
            have wt : IntKind.i64.wrap (t - 1) = t - 1 := IntWalk.i64_in _ (by omega)
            clear hl
            go_wp2_with fail
            refine (implMotionAt_any _ y (t - 1) _ RE.out OE.out HLF HI1.out).mono ?_
            rw [HL1.out]
            rintro e k4 ⟨rfl, hb4⟩
            have HK4 := Lib.hid (HK3.out.trans (hb4.mono HK3.out.size))
            clear hb4
            go_wp2
            go_ret
            exact ⟨rfl, HK4.out⟩
          · have e6 : decide (0 < t) = false := decide_eq_false htp
            go_wp2
            go_ret
            exact ⟨rfl, HK3.out⟩
        · have e3 : (rc == 0) = false := by simpa using hrc
          clear hrc
          by_cases htp : 0 < t
          · have e6 : decide (0 < t) = true := decide_eq_true htp
            have hl := ML.out htp
            have HL1 := Lib.hid hl.1
            have e7 : decide (motionAtV y (t - 1) ≤ mv) = true := decide_eq_true hl.2
            have HI1 := Lib.hid (IT1.out htp)
            have wt : IntKind.i64.wrap (t - 1) = t - 1 := IntWalk.i64_in _ (by omega)
            clear hl
            go_wp2_with fail
            refine (implMotionAt_any _ y (t - 1) _ RE.out OE.out HLF HI1.out).mono ?_
            rw [HL1.out]
            rintro e k4 ⟨rfl, hb4⟩
            have HK4 := Lib.hid (HK3.out.trans (hb4.mono HK3.out.size))
            clear hb4
            go_wp2
            go_ret
            exact ⟨rfl, HK4.out⟩
          · have e6 : decide (0 < t) = false := decide_eq_false htp
            go_wp2
            go_ret
            exact ⟨rfl, HK3.out⟩
    have TL := Lib.hid (travel_least hC)
    have hbd := travel_bd hC
    rw [hC]
    clear hC
    obtain ⟨tv, htv⟩ : ∃ c, c = travelV x g := ⟨_, rfl⟩
    rw [← htv] at TL hbd ⊢
    clear htv
    have IV := Lib.hid (show I64 tv from i64_smK (by unfold smN; omega))
    have u0 := BQ7.out.at' 0 _ rfl
    have u1 := BQ7.out.at' 1 _ rfl
    have u2 := BQ7.out.at' 2 _ rfl
    have u3 := BQ7.out.at' 3 _ rfl
    have hq7 := BQ7.out.lt
    have T2 := Lib.hid TL.out.2.1
    go_wp2_with fail
    refine (implMotionAt_any _ x tv _ RD7.out OK.out HLE IV.out).mono ?_
    rw [TL.out.1]
    rintro e w7 ⟨rfl, hb7⟩
    have BQ8 := Lib.hid (BQ7.out.mono hb7)
    have RD8 := Lib.hid (RD7.out.mono hb7)
    have HB8 := Lib.hid (HB7.out.trans (hb7.mono HB7.out.size))
    clear hb7 u0 u1 u2 u3 hq7
    have e8 : decide (motionAtV x tv < g) = false := decide_eq_false (by have := T2.out; omega)
    by_cases hp : 0 < tv
    rotate_left
    · have e9 : decide (0 < tv) = false := decide_eq_false hp
      obtain ⟨mx, hmx⟩ : ∃ c, c = motionAtV x tv := ⟨_, rfl⟩
      rw [← hmx] at e8 ⊢
      clear hmx
      go_wp2_with fail
      refine (DrawMotionAt_any _ _ x1 (HY.out.mono HB8.out) o1).mono ?_
      rintro e k1 ⟨v, y, t, rfl, hown, hsm, ht, hb1⟩
      obtain ⟨a5, c5, rfl⟩ := hown.form
      have RE := Lib.hid hown.rd
      have OE := Lib.hid (sm_okA hsm)
      have HLF : y.levs.length ≤ 1048576 := by have := hsm.len; omega
      have IT := Lib.hid (i64_smK ht)
      have HTB : -1 ≤ t ∧ t ≤ 2000000 := ht
      have IT1 := Lib.hid (show 0 < t → I64 (t - 1) from fun h => i64_smK (by unfold smN; omega))
      have zk := hb1.size
      have HK1 := Lib.hid (HB8.out.trans (hb1.mono HB8.out.size))
      clear hown hsm hb1 ht
      obtain ⟨qq, hqq⟩ : ∃ q, q = k1.heap.size := ⟨_, rfl⟩
      have BE := Lib.hid (Box.alloc k1 [.int .i64 y.note, .slice a5 y.levs.length c5, .int .i64 y.slack, .int .i64 y.weight] 29 qq hqq.symm)
      have HK2 := Lib.hid (HK1.out.trans ((belowA k1 (.cells #[.int .i64 y.note, .slice a5 y.levs.length c5, .int .i64 y.slack, .int .i64 y.weight] 29)).mono HK1.out.size))
      have RE := Lib.hid (RE.out.mono (belowA k1 (.cells #[.int .i64 y.note, .slice a5 y.levs.length c5, .int .i64 y.slack, .int .i64 y.weight] 29)))
      go_wp2_with fail
      rw [← hqq]
      clear hqq
      refine (implMotionAt_any _ y t _ RE.out OE.out HLF IT.out).mono ?_
      rintro e k2 ⟨rfl, hb2⟩
      have BE := Lib.hid (BE.out.mono hb2)
      have RE := Lib.hid (RE.out.mono hb2)
      have HK2 := Lib.hid (HK2.out.trans (hb2.mono HK2.out.size))
      have u0 := BE.out.at' 0 _ rfl
      have u1 := BE.out.at' 1 _ rfl
      have u2 := BE.out.at' 2 _ rfl
      have u3 := BE.out.at' 3 _ rfl
      have l2 := BE.out.lt
      clear hb2
      go_wp2_with fail
      refine (implRatioOf_any _ y _ RE.out OE.out HLF).mono ?_
      rintro e k3 ⟨rfl, hb3⟩
      have BE := Lib.hid (BE.out.mono hb3)
      have RE := Lib.hid (RE.out.mono hb3)
      have HK3 := Lib.hid (HK2.out.trans (hb3.mono HK2.out.size))
      clear hb3 u0 u1 u2 u3 l2
      have u0 := BE.out.at' 0 _ rfl
      have u1 := BE.out.at' 1 _ rfl
      have u2 := BE.out.at' 2 _ rfl
      have u3 := BE.out.at' 3 _ rfl
      have l2 := BE.out.lt
      by_cases hC : motionAtC y t = 0
      rotate_left
      · have hV := motion_bad hC
        have dC : (motionAtC y t != 0) = true := by simpa using hC
        rw [hV]
        clear hV hC
        go_wp2
        go_ret
        exact ⟨rfl, HK3.out⟩
      have MS := Lib.hid (fun h => motion_slack (x := y) (t := t) hC h)
      have ML := Lib.hid (fun h => motion_less (x := y) (t := t) hC h)
      rw [hC]
      clear hC
      obtain ⟨mv, hmv⟩ : ∃ m, m = motionAtV y t := ⟨_, rfl⟩
      rw [← hmv] at MS ML ⊢
      clear hmv
      have S1 : (decide (t ≤ y.slack) && (mv != 0)) = false := by
        by_cases h : t ≤ y.slack
        · rw [MS.out h]; simp
        · simp [h]
      have RP := Lib.hid (fun h => ratio_pos (x := y) h)
      obtain ⟨rt, hrt⟩ : ∃ m, m = raT y := ⟨_, rfl⟩
      obtain ⟨rb, hrb⟩ : ∃ m, m = raB y := ⟨_, rfl⟩
      obtain ⟨rc, hrc⟩ : ∃ m, m = raC y := ⟨_, rfl⟩
      rw [← hrt, ← hrb, ← hrc] at RP ⊢
      clear hrt hrb hrc
      by_cases hs : t ≤ y.slack
      · have hmv0 := MS.out hs
        have e1 : decide (t ≤ y.slack) = true := decide_eq_true hs
        have e2 : (mv != 0) = false := by rw [hmv0]; rfl
        clear hmv0 hs S1
        by_cases hrc : rc = 0
        · have hrp := RP.out hrc
          have e3 : (rc == 0) = true := by simpa using hrc
          have e4 : decide (rt < 1) = false := by simp; omega
          have e5 : decide (rb < 1) = false := by simp; omega
          clear hrp hrc
          by_cases htp : 0 < t
          · have e6 : decide (0 < t) = true := decide_eq_true htp
            have hl := ML.out htp
            have HL1 := Lib.hid hl.1
            have e7 : decide (motionAtV y (t - 1) ≤ mv) = true := decide_eq_true hl.2
            have HI1 := Lib.hid (IT1.out htp)
            have wt : IntKind.i64.wrap (t - 1) = t - 1 := IntWalk.i64_in _ (by omega)
            clear hl
            go_wp2_with fail
            refine (implMotionAt_any _ y (t - 1) _ RE.out OE.out HLF HI1.out).mono ?_
            rw [HL1.out]
            rintro e k4 ⟨rfl, hb4⟩
            have HK4 := Lib.hid (HK3.out.trans (hb4.mono HK3.out.size))
            clear hb4
            go_wp2
            go_ret
            exact ⟨rfl, HK4.out⟩
          · have e6 : decide (0 < t) = false := decide_eq_false htp
            go_wp2
            go_ret
            exact ⟨rfl, HK3.out⟩
        · have e3 : (rc == 0) = false := by simpa using hrc
          clear hrc
          by_cases htp : 0 < t
          · have e6 : decide (0 < t) = true := decide_eq_true htp
            have hl := ML.out htp
            have HL1 := Lib.hid hl.1
            have e7 : decide (motionAtV y (t - 1) ≤ mv) = true := decide_eq_true hl.2
            have HI1 := Lib.hid (IT1.out htp)
            have wt : IntKind.i64.wrap (t - 1) = t - 1 := IntWalk.i64_in _ (by omega)
            clear hl
            go_wp2_with fail
            refine (implMotionAt_any _ y (t - 1) _ RE.out OE.out HLF HI1.out).mono ?_
            rw [HL1.out]
            rintro e k4 ⟨rfl, hb4⟩
            have HK4 := Lib.hid (HK3.out.trans (hb4.mono HK3.out.size))
            clear hb4
            go_wp2
            go_ret
            exact ⟨rfl, HK4.out⟩
          · have e6 : decide (0 < t) = false := decide_eq_false htp
            go_wp2
            go_ret
            exact ⟨rfl, HK3.out⟩
      · have e1 : decide (t ≤ y.slack) = false := decide_eq_false hs
        clear hs S1
        by_cases hrc : rc = 0
        · have hrp := RP.out hrc
          have e3 : (rc == 0) = true := by simpa using hrc
          have e4 : decide (rt < 1) = false := by simp; omega
          have e5 : decide (rb < 1) = false := by simp; omega
          clear hrp hrc
          by_cases htp : 0 < t
          · have e6 : decide (0 < t) = true := decide_eq_true htp
            have hl := ML.out htp
            have HL1 := Lib.hid hl.1
            have e7 : decide (motionAtV y (t - 1) ≤ mv) = true := decide_eq_true hl.2
            have HI1 := Lib.hid (IT1.out htp)
            have wt : IntKind.i64.wrap (t - 1) = t - 1 := IntWalk.i64_in _ (by omega)
            clear hl
            go_wp2_with fail
            refine (implMotionAt_any _ y (t - 1) _ RE.out OE.out HLF HI1.out).mono ?_
            rw [HL1.out]
            rintro e k4 ⟨rfl, hb4⟩
            have HK4 := Lib.hid (HK3.out.trans (hb4.mono HK3.out.size))
            clear hb4
            go_wp2
            go_ret
            exact ⟨rfl, HK4.out⟩
          · have e6 : decide (0 < t) = false := decide_eq_false htp
            go_wp2
            go_ret
            exact ⟨rfl, HK3.out⟩
        · have e3 : (rc == 0) = false := by simpa using hrc
          clear hrc
          by_cases htp : 0 < t
          · have e6 : decide (0 < t) = true := decide_eq_true htp
            have hl := ML.out htp
            have HL1 := Lib.hid hl.1
            have e7 : decide (motionAtV y (t - 1) ≤ mv) = true := decide_eq_true hl.2
            have HI1 := Lib.hid (IT1.out htp)
            have wt : IntKind.i64.wrap (t - 1) = t - 1 := IntWalk.i64_in _ (by omega)
            clear hl
            go_wp2_with fail
            refine (implMotionAt_any _ y (t - 1) _ RE.out OE.out HLF HI1.out).mono ?_
            rw [HL1.out]
            rintro e k4 ⟨rfl, hb4⟩
            have HK4 := Lib.hid (HK3.out.trans (hb4.mono HK3.out.size))
            clear hb4
            go_wp2
            go_ret
            exact ⟨rfl, HK4.out⟩
          · have e6 : decide (0 < t) = false := decide_eq_false htp
            go_wp2
            go_ret
            exact ⟨rfl, HK3.out⟩
    have e9 : decide (0 < tv) = true := decide_eq_true hp
    have T3 := Lib.hid (TL.out.2.2 hp)
    have IV1 := Lib.hid (show I64 (tv - 1) from i64_smK (by unfold smN; omega))
    have wv : IntKind.i64.wrap (tv - 1) = tv - 1 := IntWalk.i64_in _ (by omega)
    have u0 := BQ8.out.at' 0 _ rfl
    have u1 := BQ8.out.at' 1 _ rfl
    have u2 := BQ8.out.at' 2 _ rfl
    have u3 := BQ8.out.at' 3 _ rfl
    have hq8 := BQ8.out.lt
    obtain ⟨mx, hmx⟩ : ∃ c, c = motionAtV x tv := ⟨_, rfl⟩
    rw [← hmx] at e8 ⊢
    clear hmx
    go_wp2_with fail
    refine (implMotionAt_any _ x (tv - 1) _ RD8.out OK.out HLE IV1.out).mono ?_
    rw [T3.out.1]
    rintro e w8 ⟨rfl, hb8⟩
    have HB9 := Lib.hid (HB8.out.trans (hb8.mono HB8.out.size))
    clear hb8 u0 u1 u2 u3 hq8
    have e10 : decide (g ≤ motionAtV x (tv - 1)) = false := decide_eq_false (by have := T3.out.2; omega)
    obtain ⟨mz, hmz⟩ : ∃ c, c = motionAtV x (tv - 1) := ⟨_, rfl⟩
    rw [← hmz] at e10 ⊢
    clear hmz
    go_wp2_with fail
    refine (DrawMotionAt_any _ _ x1 (HY.out.mono HB9.out) o1).mono ?_
    rintro e k1 ⟨v, y, t, rfl, hown, hsm, ht, hb1⟩
    obtain ⟨a5, c5, rfl⟩ := hown.form
    have RE := Lib.hid hown.rd
    have OE := Lib.hid (sm_okA hsm)
    have HLF : y.levs.length ≤ 1048576 := by have := hsm.len; omega
    have IT := Lib.hid (i64_smK ht)
    have HTB : -1 ≤ t ∧ t ≤ 2000000 := ht
    have IT1 := Lib.hid (show 0 < t → I64 (t - 1) from fun h => i64_smK (by unfold smN; omega))
    have zk := hb1.size
    have HK1 := Lib.hid (HB9.out.trans (hb1.mono HB9.out.size))
    clear hown hsm hb1 ht
    obtain ⟨qq, hqq⟩ : ∃ q, q = k1.heap.size := ⟨_, rfl⟩
    have BE := Lib.hid (Box.alloc k1 [.int .i64 y.note, .slice a5 y.levs.length c5, .int .i64 y.slack, .int .i64 y.weight] 29 qq hqq.symm)
    have HK2 := Lib.hid (HK1.out.trans ((belowA k1 (.cells #[.int .i64 y.note, .slice a5 y.levs.length c5, .int .i64 y.slack, .int .i64 y.weight] 29)).mono HK1.out.size))
    have RE := Lib.hid (RE.out.mono (belowA k1 (.cells #[.int .i64 y.note, .slice a5 y.levs.length c5, .int .i64 y.slack, .int .i64 y.weight] 29)))
    go_wp2_with fail
    rw [← hqq]
    clear hqq
    refine (implMotionAt_any _ y t _ RE.out OE.out HLF IT.out).mono ?_
    rintro e k2 ⟨rfl, hb2⟩
    have BE := Lib.hid (BE.out.mono hb2)
    have RE := Lib.hid (RE.out.mono hb2)
    have HK2 := Lib.hid (HK2.out.trans (hb2.mono HK2.out.size))
    have u0 := BE.out.at' 0 _ rfl
    have u1 := BE.out.at' 1 _ rfl
    have u2 := BE.out.at' 2 _ rfl
    have u3 := BE.out.at' 3 _ rfl
    have l2 := BE.out.lt
    clear hb2
    go_wp2_with fail
    refine (implRatioOf_any _ y _ RE.out OE.out HLF).mono ?_
    rintro e k3 ⟨rfl, hb3⟩
    have BE := Lib.hid (BE.out.mono hb3)
    have RE := Lib.hid (RE.out.mono hb3)
    have HK3 := Lib.hid (HK2.out.trans (hb3.mono HK2.out.size))
    clear hb3 u0 u1 u2 u3 l2
    have u0 := BE.out.at' 0 _ rfl
    have u1 := BE.out.at' 1 _ rfl
    have u2 := BE.out.at' 2 _ rfl
    have u3 := BE.out.at' 3 _ rfl
    have l2 := BE.out.lt
    by_cases hC : motionAtC y t = 0
    rotate_left
    · have hV := motion_bad hC
      have dC : (motionAtC y t != 0) = true := by simpa using hC
      rw [hV]
      clear hV hC
      go_wp2
      go_ret
      exact ⟨rfl, HK3.out⟩
    have MS := Lib.hid (fun h => motion_slack (x := y) (t := t) hC h)
    have ML := Lib.hid (fun h => motion_less (x := y) (t := t) hC h)
    rw [hC]
    clear hC
    obtain ⟨mv, hmv⟩ : ∃ m, m = motionAtV y t := ⟨_, rfl⟩
    rw [← hmv] at MS ML ⊢
    clear hmv
    have S1 : (decide (t ≤ y.slack) && (mv != 0)) = false := by
      by_cases h : t ≤ y.slack
      · rw [MS.out h]; simp
      · simp [h]
    have RP := Lib.hid (fun h => ratio_pos (x := y) h)
    obtain ⟨rt, hrt⟩ : ∃ m, m = raT y := ⟨_, rfl⟩
    obtain ⟨rb, hrb⟩ : ∃ m, m = raB y := ⟨_, rfl⟩
    obtain ⟨rc, hrc⟩ : ∃ m, m = raC y := ⟨_, rfl⟩
    rw [← hrt, ← hrb, ← hrc] at RP ⊢
    clear hrt hrb hrc
    by_cases hs : t ≤ y.slack
    · have hmv0 := MS.out hs
      have e1 : decide (t ≤ y.slack) = true := decide_eq_true hs
      have e2 : (mv != 0) = false := by rw [hmv0]; rfl
      clear hmv0 hs S1
      by_cases hrc : rc = 0
      · have hrp := RP.out hrc
        have e3 : (rc == 0) = true := by simpa using hrc
        have e4 : decide (rt < 1) = false := by simp; omega
        have e5 : decide (rb < 1) = false := by simp; omega
        clear hrp hrc
        by_cases htp : 0 < t
        · have e6 : decide (0 < t) = true := decide_eq_true htp
          have hl := ML.out htp
          have HL1 := Lib.hid hl.1
          have e7 : decide (motionAtV y (t - 1) ≤ mv) = true := decide_eq_true hl.2
          have HI1 := Lib.hid (IT1.out htp)
          have wt : IntKind.i64.wrap (t - 1) = t - 1 := IntWalk.i64_in _ (by omega)
          clear hl
          go_wp2_with fail
          refine (implMotionAt_any _ y (t - 1) _ RE.out OE.out HLF HI1.out).mono ?_
          rw [HL1.out]
          rintro e k4 ⟨rfl, hb4⟩
          have HK4 := Lib.hid (HK3.out.trans (hb4.mono HK3.out.size))
          clear hb4
          go_wp2
          go_ret
          exact ⟨rfl, HK4.out⟩
        · have e6 : decide (0 < t) = false := decide_eq_false htp
          go_wp2
          go_ret
          exact ⟨rfl, HK3.out⟩
      · have e3 : (rc == 0) = false := by simpa using hrc
        clear hrc
        by_cases htp : 0 < t
        · have e6 : decide (0 < t) = true := decide_eq_true htp
          have hl := ML.out htp
          have HL1 := Lib.hid hl.1
          have e7 : decide (motionAtV y (t - 1) ≤ mv) = true := decide_eq_true hl.2
          have HI1 := Lib.hid (IT1.out htp)
          have wt : IntKind.i64.wrap (t - 1) = t - 1 := IntWalk.i64_in _ (by omega)
          clear hl
          go_wp2_with fail
          refine (implMotionAt_any _ y (t - 1) _ RE.out OE.out HLF HI1.out).mono ?_
          rw [HL1.out]
          rintro e k4 ⟨rfl, hb4⟩
          have HK4 := Lib.hid (HK3.out.trans (hb4.mono HK3.out.size))
          clear hb4
          go_wp2
          go_ret
          exact ⟨rfl, HK4.out⟩
        · have e6 : decide (0 < t) = false := decide_eq_false htp
          go_wp2
          go_ret
          exact ⟨rfl, HK3.out⟩
    · have e1 : decide (t ≤ y.slack) = false := decide_eq_false hs
      clear hs S1
      by_cases hrc : rc = 0
      · have hrp := RP.out hrc
        have e3 : (rc == 0) = true := by simpa using hrc
        have e4 : decide (rt < 1) = false := by simp; omega
        have e5 : decide (rb < 1) = false := by simp; omega
        clear hrp hrc
        by_cases htp : 0 < t
        · have e6 : decide (0 < t) = true := decide_eq_true htp
          have hl := ML.out htp
          have HL1 := Lib.hid hl.1
          have e7 : decide (motionAtV y (t - 1) ≤ mv) = true := decide_eq_true hl.2
          have HI1 := Lib.hid (IT1.out htp)
          have wt : IntKind.i64.wrap (t - 1) = t - 1 := IntWalk.i64_in _ (by omega)
          clear hl
          go_wp2_with fail
          refine (implMotionAt_any _ y (t - 1) _ RE.out OE.out HLF HI1.out).mono ?_
          rw [HL1.out]
          rintro e k4 ⟨rfl, hb4⟩
          have HK4 := Lib.hid (HK3.out.trans (hb4.mono HK3.out.size))
          clear hb4
          go_wp2
          go_ret
          exact ⟨rfl, HK4.out⟩
        · have e6 : decide (0 < t) = false := decide_eq_false htp
          go_wp2
          go_ret
          exact ⟨rfl, HK3.out⟩
      · have e3 : (rc == 0) = false := by simpa using hrc
        clear hrc
        by_cases htp : 0 < t
        · have e6 : decide (0 < t) = true := decide_eq_true htp
          have hl := ML.out htp
          have HL1 := Lib.hid hl.1
          have e7 : decide (motionAtV y (t - 1) ≤ mv) = true := decide_eq_true hl.2
          have HI1 := Lib.hid (IT1.out htp)
          have wt : IntKind.i64.wrap (t - 1) = t - 1 := IntWalk.i64_in _ (by omega)
          clear hl
          go_wp2_with fail
          refine (implMotionAt_any _ y (t - 1) _ RE.out OE.out HLF HI1.out).mono ?_
          rw [HL1.out]
          rintro e k4 ⟨rfl, hb4⟩
          have HK4 := Lib.hid (HK3.out.trans (hb4.mono HK3.out.size))
          clear hb4
          go_wp2
          go_ret
          exact ⟨rfl, HK4.out⟩
        · have e6 : decide (0 < t) = false := decide_eq_false htp
          go_wp2
          go_ret
          exact ⟨rfl, HK3.out⟩

end Go.Proofs.YtijhlllajddlpaaDoor
