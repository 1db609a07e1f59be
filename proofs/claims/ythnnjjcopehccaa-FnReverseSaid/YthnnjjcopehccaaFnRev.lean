/- The law FnReverse returns true and leaves memory as it was. -/
import Derived.Test.YthnnjjcopehccaaDraw25
import Derived.Test.YthnnjjcopehccaaFnRevL
set_option linter.unusedSimpArgs false
set_option linter.unnecessarySimpa false
set_option linter.unusedVariables false
set_option maxRecDepth 100000
namespace Go.Proofs.Ythnnjjcopehccaa
open Go.RowKit

theorem i64_sm {n : Int} (h0 : -1000000000 ≤ n) (h1 : n ≤ 1000000000) : I64 n := by simp only [I64, Lit.wf, IntKind.min, IntKind.max, IntKind.signed, IntKind.bits]; simp; omega
theorem valid_ok {x : TunD} (h : validTunB x = true) : x.ok := by
  obtain ⟨hn, hl, ht⟩ := validTunB_iff.1 h
  refine ⟨by have := hn.len; unfold maxLen; omega, fun l hl' => ?_⟩
  obtain ⟨k, hk, rfl⟩ := List.getElem_of_mem hl'
  obtain ⟨a1, a2, a3⟩ := (TonOk.iff' _).1 (ht k hk hk).1
  unfold noteOk at a1
  exact ⟨i64_sm (by omega) (by omega), i64_sm (by omega) (by omega), i64_sm (by omega) (by omega)⟩

set_option maxHeartbeats 1000000 in
theorem R8Tune_any (w : World) (v0 : Value) (x0 : List Int) (h0 : Byts w v0 x0) (o0 : okByts x0) :
    Calls Try.prog 4 #[v0] w fun e w' => ∃ (v' : Value) (x : TunD), e = .returned v' ∧ OwnTun w.heap.size w'.heap.size w' v' x ∧ validTunB x = true ∧ x.tones.length ≤ 9 ∧ Below w.heap.size w w' := by
  obtain ⟨a0, ca, rfl, _, _, _⟩ := id h0
  go_enter Try.func4, Try.ntmps4
  go_wp2_with fail
  refine (l00From_any a0 x0.length ca _).mono ?_
  rintro e w2 ⟨rfl, hs, hz2⟩
  have e1 : (w.alloc (.cells #[.string ⟨#[]⟩, .slice none 0 0] 25)).heap.size = w.heap.size + 1 := by simp
  rw [e1] at hs hz2 ⊢
  have HS := Lib.hid hs
  have HZ2 := Lib.hid hz2
  clear e1
  have hz2' : w.heap.size + 2 ≤ w2.heap.size := by omega
  have hb := hs.below
  have r0 : w2.cell? ⟨w.heap.size, 0, none⟩ = some (.string ⟨#[]⟩) := cellB hb (by simp [go_sem])
  have r1 : w2.cell? ⟨w.heap.size, 1, none⟩ = some (.slice none 0 0) := cellB hb (by simp [go_sem])
  have f0 : w2.frozen? ⟨w.heap.size, 0, none⟩ = false := frozenL hb (by simp) (by simp [go_sem])
  have f1 : w2.frozen? ⟨w.heap.size, 1, none⟩ = false := frozenL hb (by simp) (by simp [go_sem])
  have HB := Lib.hid (show Below w.heap.size w w2 from Below.trans (by (repeat (first | with_reducible exact Below.refl _ _ | with_reducible exact hbw | (with_reducible refine Below.setCell ?_ ?_ _; rotate_left; · first | exact Nat.le_refl _ | omega | (simp; done) | (simp; omega)) | (with_reducible refine Below.alloc ?_ ?_ _; rotate_left; · first | exact Nat.le_refl _ | omega | (simp; done) | (simp; omega)) | with_reducible refine below_drewN ?_ _ | with_reducible refine Below.drew ?_))) (hb.mono (by simp)))
  clear hs hz2 hb
  go_wp2_with fail
  refine (l25Draw_any (w.alloc (.cells #[.string ⟨#[]⟩, .slice none 0 0] 25)) (w.heap.size + 1) 0 (.slice a0 x0.length ca) x0 w2 (Byts.mono h0 (by (repeat (first | with_reducible exact Below.refl _ _ | with_reducible exact hbw | (with_reducible refine Below.setCell ?_ ?_ _; rotate_left; · first | exact Nat.le_refl _ | omega | (simp; done) | (simp; omega)) | (with_reducible refine Below.alloc ?_ ?_ _; rotate_left; · first | exact Nat.le_refl _ | omega | (simp; done) | (simp; omega)) | with_reducible refine below_drewN ?_ _ | with_reducible refine Below.drew ?_)))) o0 HS.out (by omega)).mono ?_
  rintro e w3 ⟨v', x, m, rfl, own, hval, h9, _, _, _, ht⟩
  obtain ⟨a1, c1, rfl⟩ := own.form
  have r0 := cellT ht r0 (.inl (by simp))
  have r1 := cellT ht r1 (.inl (by simp))
  have f0 := froz_touch ht (by omega) (.inl (by simp)) f0
  have f1 := froz_touch ht (by omega) (.inl (by simp)) f1
  have hz3 := ht.size
  have HB3 := Lib.hid (ht.below HB.out (by simp) (by omega))
  have HO := Lib.hid own; have HV := Lib.hid hval; have HX := Lib.hid h9
  have l1 : w.heap.size < w3.heap.size := by omega
  clear own hval h9 ht HB HS HZ2
  go_wp2
  refine bodyPost_ret (v := .agg #[.string x.name, .slice a1 x.tones.length c1]) (by simp [results, Try.results4, go_sem, r0, r1, f0, f1, l1]) rfl ⟨_, x, rfl, ?_, HV.out, HX.out, ?_⟩
  · refine (HO.out.touch (B' := w.heap.size) (E' := w.heap.size + 1) ?_ (Or.inr (by omega))).wide (by omega) (by simp)
    have htc := Touch.refl w.heap.size (w.heap.size + 1) w3
    (repeat (first | with_reducible exact Touch.refl _ _ _ | with_reducible exact htc | (with_reducible refine Touch.setCell ?_ ?_ _; rotate_left; · (simp only; omega)) | (with_reducible refine Touch.setNew ?_ ?_ _; rotate_left; · (first | (simp only; omega) | (simp; done) | (simp; omega))) | with_reducible refine Touch.alloc ?_ _ | with_reducible refine Touch.drewN ?_ _ | with_reducible refine Touch.drew ?_))
  · have hbw := HB3.out
    (repeat (first | with_reducible exact Below.refl _ _ | with_reducible exact hbw | (with_reducible refine Below.setCell ?_ ?_ _; rotate_left; · first | exact Nat.le_refl _ | omega | (simp; done) | (simp; omega)) | (with_reducible refine Below.alloc ?_ ?_ _; rotate_left; · first | exact Nat.le_refl _ | omega | (simp; done) | (simp; omega)) | with_reducible refine below_drewN ?_ _ | with_reducible refine Below.drew ?_))

set_option maxHeartbeats 4000000 in
theorem lawReverse (w : World) (v0 : Value) (x0 : List Int) (h0 : Byts w v0 x0) (o0 : okByts x0) :
    Calls Try.prog 3 #[v0] w fun e w' => e = .returned (.bool true) ∧ Below w.heap.size w w' := by
  obtain ⟨a0, ca, rfl, hca, hcm, _⟩ := id h0
  have hm : x0.length ≤ maxLen := by omega
  unfold maxLen at hm
  clear hca hcm
  by_cases gl : x0.length ≤ 1048576
  rotate_left
  · have d1 : decide (1048576 < (x0.length : Int)) = true := by simp; omega
    go_enter Try.func3, Try.ntmps3
    go_wp2
    go_ret
    exact ⟨rfl, Below.refl _ _⟩
  have d1 : decide (1048576 < (x0.length : Int)) = false := by simp; omega
  go_enter Try.func3, Try.ntmps3
  go_wp2_with fail
  refine (R8Tune_any w _ x0 h0 o0).mono ?_
  rintro e w1 ⟨v1, x, rfl, own1, hval, hx9, hb1⟩
  obtain ⟨a1, c1, rfl⟩ := own1.form
  have RD1 := Lib.hid own1.rd; have HV := Lib.hid hval; have hz1 := hb1.size
  have OK := Lib.hid (valid_ok hval)
  have HB1 := Lib.hid hb1
  clear own1 hval hb1 d1
  go_wp2_with fail
  refine (implReverseTune_any _ x _ (RD1.out.mono (by (repeat (first | with_reducible exact Below.refl _ _ | with_reducible exact hbw | (with_reducible refine Below.setCell ?_ ?_ _; rotate_left; · first | exact Nat.le_refl _ | omega | (simp; done) | (simp; omega)) | (with_reducible refine Below.alloc ?_ ?_ _; rotate_left; · first | exact Nat.le_refl _ | omega | (simp; done) | (simp; omega)) | with_reducible refine below_drewN ?_ _ | with_reducible refine Below.drew ?_)))) OK.out (by omega)).mono ?_
  rintro e w2 ⟨v2, rfl, own2, hb2⟩
  obtain ⟨a2, c2, rfl⟩ := own2.form
  have hz2 : w1.heap.size + 1 ≤ w2.heap.size := by have := hb2.size; simp at this; omega
  have y0 : w2.cell? ⟨w1.heap.size, 0, none⟩ = some (.string x.name) := cellB hb2 (by simp [go_sem])
  have y1 : w2.cell? ⟨w1.heap.size, 1, none⟩ = some (.slice a1 x.tones.length c1) := cellB hb2 (by simp [go_sem])
  have HB12 := Lib.hid (show Below w1.heap.size w1 w2 from Below.trans (by (repeat (first | with_reducible exact Below.refl _ _ | with_reducible exact hbw | (with_reducible refine Below.setCell ?_ ?_ _; rotate_left; · first | exact Nat.le_refl _ | omega | (simp; done) | (simp; omega)) | (with_reducible refine Below.alloc ?_ ?_ _; rotate_left; · first | exact Nat.le_refl _ | omega | (simp; done) | (simp; omega)) | with_reducible refine below_drewN ?_ _ | with_reducible refine Below.drew ?_))) (hb2.mono (by simp)))
  have HB2 := Lib.hid (HB1.out.trans (HB12.out.mono hz1))
  have RD2 := Lib.hid own2.rd
  clear own2 hb2
  by_cases gc : revC x = 0
  rotate_left
  · have e6 := rev_code HV.out gc
    rw [e6]
    go_wp2
    go_ret
    refine ⟨rfl, ?_⟩
    have hbw := HB2.out
    (repeat (first | with_reducible exact Below.refl _ _ | with_reducible exact hbw | (with_reducible refine Below.setCell ?_ ?_ _; rotate_left; · first | exact Nat.le_refl _ | omega | (simp; done) | (simp; omega)) | (with_reducible refine Below.alloc ?_ ?_ _; rotate_left; · first | exact Nat.le_refl _ | omega | (simp; done) | (simp; omega)) | with_reducible refine below_drewN ?_ _ | with_reducible refine Below.drew ?_))
  obtain ⟨q1, q2, q3, q4, q5, q6⟩ := rev_twice HV.out gc
  rw [gc]
  generalize revV x = y at RD2 q1 q2 q3 q4 q5 q6 ⊢
  have Q1 := Lib.hid q1; have Q2 := Lib.hid q2; have Q3 := Lib.hid q3; have Q4 := Lib.hid q4; have Q5 := Lib.hid q5; have Q6 := Lib.hid q6
  have hy9 : y.tones.length ≤ 9 := by omega
  clear gc q1 q2 q3 q4 q5 q6
  go_wp2_with fail
  refine (implReverseTune_any _ y _ (RD2.out.mono (by (repeat (first | with_reducible exact Below.refl _ _ | with_reducible exact hbw | (with_reducible refine Below.setCell ?_ ?_ _; rotate_left; · first | exact Nat.le_refl _ | omega | (simp; done) | (simp; omega)) | (with_reducible refine Below.alloc ?_ ?_ _; rotate_left; · first | exact Nat.le_refl _ | omega | (simp; done) | (simp; omega)) | with_reducible refine below_drewN ?_ _ | with_reducible refine Below.drew ?_)))) (valid_ok Q1.out) (by omega)).mono ?_
  rintro e w3 ⟨v3, rfl, own3, hb3⟩
  obtain ⟨a3, c3, rfl⟩ := own3.form
  have hz3 : w2.heap.size + 1 ≤ w3.heap.size := by have := hb3.size; simp at this; omega
  have u0 : w3.cell? ⟨w2.heap.size, 0, none⟩ = some (.string y.name) := cellB hb3 (by simp [go_sem])
  have u1 : w3.cell? ⟨w2.heap.size, 1, none⟩ = some (.slice a2 y.tones.length c2) := cellB hb3 (by simp [go_sem])
  have hb23 : Below w2.heap.size w2 w3 := Below.trans (by (repeat (first | with_reducible exact Below.refl _ _ | with_reducible exact hbw | (with_reducible refine Below.setCell ?_ ?_ _; rotate_left; · first | exact Nat.le_refl _ | omega | (simp; done) | (simp; omega)) | (with_reducible refine Below.alloc ?_ ?_ _; rotate_left; · first | exact Nat.le_refl _ | omega | (simp; done) | (simp; omega)) | with_reducible refine below_drewN ?_ _ | with_reducible refine Below.drew ?_))) (hb3.mono (by simp))
  have y0 := cellB hb23 y0
  have y1 := cellB hb23 y1
  have HB3 := Lib.hid (HB2.out.trans (hb23.mono (by omega)))
  have RX := Lib.hid ((RD1.out.mono HB12.out).mono hb23)
  have RY := Lib.hid (RD2.out.mono hb23)
  obtain ⟨lz, ez, tz⟩ := own3.rd
  have ez' : Value.slice a3 (revV y).tones.length c3 = lz := by simpa using ez
  subst ez'
  rw [Q4.out, List.length_map] at tz
  have ql : (revV y).tones.length = x.tones.length := by rw [Q4.out, List.length_map]
  rw [ql]
  rw [Q3.out]
  have TZ := Lib.hid tz
  obtain ⟨zn, hzn⟩ : ∃ zn, zn = (revV y).name := ⟨_, rfl⟩
  rw [← hzn]
  have d8 : ((y.tones.length : Int) != (x.tones.length : Int)) = false := by rw [Q2.out]; simp
  clear own3 hb3 hb23 tz ql hzn ez RD1 RD2 HB12
  have HS0 := Lib.hid (show ∀ h : 0 < x.tones.length, st0 x.tones = x.tones[0].start from fun h => by
    unfold st0
    rw [List.head?_eq_getElem?, List.getElem?_eq_getElem h]; rfl)
  have TB := Lib.hid (show ∀ (k : Nat) (h : k < x.tones.length), 0 ≤ x.tones[k].start ∧ x.tones[k].start ≤ 20000 from fun k h => by
    obtain ⟨_, h2, _⟩ := (TonOk.iff' _).1 (tun_tone HV.out h)
    exact h2)
  have j1 : w1.heap.size < w3.heap.size := by omega
  have j2 : w2.heap.size < w3.heap.size := by omega
  go_wp2_with fail
  go_loopw [8, 9, 10] (fun i _ _ wr => ∃ (k : Nat), k ≤ x.tones.length ∧ i = .int .i64 (k : Int) ∧ Below w3.heap.size w3 wr ∧ w3.heap.size + 1 ≤ wr.heap.size ∧ wr.cell? ⟨w3.heap.size, 1, none⟩ = some (.slice a3 x.tones.length c3)) (fun i _ _ _ => x.tones.length - (intOf i).toNat)
  case atStart => exact ⟨0, Nat.zero_le _, by go_num, by (repeat (first | with_reducible exact Below.refl _ _ | with_reducible exact hbw | (with_reducible refine Below.setCell ?_ ?_ _; rotate_left; · first | exact Nat.le_refl _ | omega | (simp; done) | (simp; omega)) | (with_reducible refine Below.alloc ?_ ?_ _; rotate_left; · first | exact Nat.le_refl _ | omega | (simp; done) | (simp; omega)) | with_reducible refine below_drewN ?_ _ | with_reducible refine Below.drew ?_)), by simp, by simp [go_sem]⟩
  case round =>
    obtain ⟨k, hk, rfl, hb, hz, z1⟩ := hrel
    have y0 := cellB hb y0
    have y1 := cellB hb y1
    have u0 := cellB hb u0
    have u1 := cellB hb u1
    have HB := Lib.hid hb
    have RXr := Lib.hid (RX.out.mono hb); have RYr := Lib.hid (RY.out.mono hb)
    by_cases hlt : k < x.tones.length
    · obtain ⟨lx, ex, tx⟩ := RXr.out
      have ex' : Value.slice a1 x.tones.length c1 = lx := by simpa using ex
      subst ex'
      obtain ⟨b1, o1, e1, hT⟩ := TonIn.of tx hlt
      obtain ⟨b2, o2, e2, hT0⟩ := TonIn.of tx (show 0 < x.tones.length by omega)
      obtain rfl := e1
      simp only [Option.some.injEq, Addr.mk.injEq, and_true] at e2
      obtain ⟨rfl, rfl⟩ := e2
      simp only [Nat.zero_mul, Nat.add_zero] at hT0
      have tz : Tons wr (.slice a3 (x.tones.map (shf0 (st0 x.tones))).length c3) (x.tones.map (shf0 (st0 x.tones))) := by rw [List.length_map]; exact TZ.out.mono hb
      obtain ⟨b3, o3, e3, hZ⟩ := TonIn.of tz (show k < (x.tones.map (shf0 (st0 x.tones))).length by rw [List.length_map]; exact hlt)
      obtain rfl := e3
      rw [List.getElem_map] at hZ
      obtain ⟨l3, p0, p1, p2⟩ := hZ
      obtain ⟨l1, t0, t1, t2⟩ := hT
      obtain ⟨_, s0, s1, s2⟩ := hT0
      simp only [shf0] at p0 p1 p2
      rw [HS0.out (by omega)] at p1
      have wz : IntKind.i64.wrap (x.tones[k].start - x.tones[0].start) = x.tones[k].start - x.tones[0].start := IntWalk.i64_in _ (by have := TB.out k hlt; have := TB.out 0 (by omega); omega)
      clear tx tz ex hb
      have m1 : b1 < wr.heap.size + 1 := by omega
      have m2 : b1 < wr.heap.size + 1 + 1 := by omega
      have m3 : b3 < wr.heap.size + 1 := by omega
      have m4 : b3 < wr.heap.size + 1 + 1 := by omega
      have m5 : w1.heap.size < wr.heap.size := by omega
      have m6 : w1.heap.size < wr.heap.size + 1 := by omega
      have m7 : w1.heap.size < wr.heap.size + 1 + 1 := by omega
      have m8 : w3.heap.size < wr.heap.size := by omega
      have m9 : w3.heap.size < wr.heap.size + 1 := by omega
      go_wp2_with fail
      go_quiet (fail)
      go_wp2
      go_roundw
      case rel =>
        refine ⟨k + 1, by omega, by go_num, ?_, by simp; omega, by simp [go_sem, z1, m8, m9]⟩
        have hbw := HB.out
        (repeat (first | with_reducible exact Below.refl _ _ | with_reducible exact hbw | (with_reducible refine Below.setCell ?_ ?_ _; rotate_left; · first | exact Nat.le_refl _ | omega | (simp; done) | (simp; omega)) | (with_reducible refine Below.alloc ?_ ?_ _; rotate_left; · first | exact Nat.le_refl _ | omega | (simp; done) | (simp; omega)) | with_reducible refine below_drewN ?_ _ | with_reducible refine Below.drew ?_))
      case measure => simp [intOf] <;> omega
    · obtain rfl : k = x.tones.length := by omega
      have ev : tuneEndV x = endOf x.tones := by unfold tuneEndV; rw [if_pos HV.out]
      have ec : tuneEndC x = 0 := by unfold tuneEndC; rw [if_pos HV.out]
      have fv : tuneEndV y = endOf y.tones := by unfold tuneEndV; rw [if_pos Q1.out]
      have fc : tuneEndC y = 0 := by unfold tuneEndC; rw [if_pos Q1.out]
      have EV := Lib.hid ev; have EC := Lib.hid ec; have FV := Lib.hid fv; have FC := Lib.hid fc
      clear ev ec fv fc d8 hb
      go_wp2_with fail
      refine (implTuneEnd_any _ x _ RXr.out OK.out (by omega)).mono ?_
      rintro e w5 ⟨rfl, hb5⟩
      rw [EV.out, EC.out]
      have hz5 := hb5.size
      have y0 := cellB hb5 y0
      have y1 := cellB hb5 y1
      have u0 := cellB hb5 u0
      have u1 := cellB hb5 u1
      go_wp2_with fail
      refine (implTuneEnd_any _ y _ (RYr.out.mono hb5) (valid_ok Q1.out) (by omega)).mono ?_
      rintro e w6 ⟨rfl, hb6⟩
      rw [FV.out, FC.out]
      have y0 := cellB hb6 y0
      have y1 := cellB hb6 y1
      have HB6 := Lib.hid (HB3.out.trans ((HB.out.trans ((hb5.trans (hb6.mono hz5)).mono (by omega))).mono (by omega)))
      by_cases hn : x.tones = []
      · rw [Q6.out hn]
        have dn : ((x.tones.length : Int) == 0) = true := by rw [hn]; rfl
        clear hn hb5 hb6
        go_wp2
        go_ret
        exact ⟨rfl, HB6.out⟩
      · have hp : 0 < x.tones.length := List.length_pos_iff.2 hn
        obtain ⟨lx, ex, tx⟩ := (RXr.out.mono hb5).mono hb6
        have ex' : Value.slice a1 x.tones.length c1 = lx := by simpa using ex
        subst ex'
        obtain ⟨b2, o2, e2, hT0⟩ := TonIn.of tx hp
        obtain rfl := e2
        simp only [Nat.zero_mul, Nat.add_zero] at hT0
        obtain ⟨_, s0, s1, s2⟩ := hT0
        rw [Q5.out hn, HS0.out hp]
        have hbd := endOf_bd (validTunB_iff.1 HV.out).tones
        have wz : IntKind.i64.wrap (endOf x.tones - x.tones[0].start) = endOf x.tones - x.tones[0].start := IntWalk.i64_in _ (by have := TB.out 0 hp; omega)
        have dn : ((x.tones.length : Int) == 0) = false := by simp; omega
        have dg : decide (0 < (x.tones.length : Int)) = true := by simpa using hp
        clear hn hb5 hb6 tx ex
        go_wp2
        go_ret
        exact ⟨rfl, HB6.out⟩

end Go.Proofs.Ythnnjjcopehccaa
