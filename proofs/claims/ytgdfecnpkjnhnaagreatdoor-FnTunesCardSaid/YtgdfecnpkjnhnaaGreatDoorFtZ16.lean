import Derived.Test.YtgdfecnpkjnhnaaGreatDoorFtZ5
import Derived.Test.YtgdfecnpkjnhnaaGreatDoorFtZ11
import Derived.Test.YtgdfecnpkjnhnaaGreatDoorFtZ12
import Derived.Test.YtgdfecnpkjnhnaaGreatDoorFtZ13
import Derived.Test.YtgdfecnpkjnhnaaGreatDoorFtZ15
import Derived.Test.YtgdfecnpkjnhnaaGreatDoorFtZ8
import Derived.Test.YtgdfecnpkjnhnaaGreatDoorFtZ9
import Derived.Test.YtgdfecnpkjnhnaaGreatDoorFtZ10
import Derived.Test.YtgdfecnpkjnhnaaGreatDoorFtZ14
/- The law FnTunes returns true and leaves memory as it was. -/
set_option linter.unusedSimpArgs false
set_option linter.unnecessarySimpa false
set_option linter.unusedVariables false
set_option maxRecDepth 100000
namespace Go.Proofs.YtgdfecnpkjnhnaaGreatDoor
open Go.RowKit

theorem tunT_size {x : TunD} (h : validTunB x = true) : (tunT x).size ≤ 1048576 := by
  have ok : TunOk x := by simpa [validTunB] using h
  have := tunOk_len ok (Nat.le_refl _)
  rw [List.take_length] at this
  rw [tunT_yes h, bytesB_size]; omega
theorem i64_b {n : Int} (h0 : -1000 ≤ n) (h1 : n ≤ 1000) : I64 n := i64_sm (by omega) (by omega)



set_option maxHeartbeats 4000000 in
theorem lawTunes (w : World) (v0 : Value) (x0 : List Int) (h0 : Byts w v0 x0) (o0 : okByts x0) (v1 : Value) (x1 : List Int) (h1 : Byts w v1 x1) (o1 : okByts x1) (ht : Lay w) :
    Calls Tryz.prog 3 #[v0, v1] w fun e w' => e = .returned (.bool true) ∧ Below w.heap.size w w' := by
  obtain ⟨a0, ca, rfl, hca, hcm, _⟩ := id h0
  obtain ⟨b0, cb, rfl, hcb, hcm2, _⟩ := id h1
  have hm : x0.length ≤ maxLen := by omega
  have hm2 : x1.length ≤ maxLen := by omega
  unfold maxLen at hm hm2
  clear hca hcm hcb hcm2
  by_cases gl : x0.length ≤ 1048576 ∧ x1.length ≤ 1048576
  rotate_left
  · go_enter Tryz.func3, Tryz.ntmps3
    go_wp2_with fail
    refine (r8Long_any true a0 b0 x0.length x1.length ca cb _ (by omega) (by omega) (by symm; simp; omega)).mono ?_
    rintro e w' ⟨rfl, rfl⟩
    go_wp2
    go_ret
    exact ⟨rfl, Below.refl _ _⟩
  have HY := Lib.hid h1
  have HLY := Lib.hid ht
  go_enter Tryz.func3, Tryz.ntmps3
  go_wp2_with fail
  refine (r8Long_any false a0 b0 x0.length x1.length ca cb _ (by omega) (by omega) (by symm; simp; omega)).mono ?_
  rintro e w' ⟨rfl, rfl⟩
  go_wp2_with fail
  refine (R8Tune_any w _ x0 h0 o0).mono ?_
  rintro e w1 ⟨vx, x, rfl, own, hdx, hb⟩
  obtain ⟨a1, c1, rfl⟩ := own.form
  have RX := Lib.hid own.rd
  have DX := Lib.hid hdx
  have VX := Lib.hid hdx.1
  have OX := Lib.hid (valid_ok hdx.1)
  have zx : x.tones.length ≤ 9 := hdx.2.1
  have zxx : x.tones.length ≤ 1048576 := by omega
  have hz := hb.size
  have HB := Lib.hid hb
  clear own hdx hb gl h0 h1 ht
  obtain ⟨p, hp⟩ : ∃ p, p = w1.heap.size := ⟨_, rfl⟩
  have BX := Lib.hid (Box.alloc w1 [.string x.name, .slice a1 x.tones.length c1] 26 p hp.symm)
  have hba := belowA w1 (.cells #[.string x.name, .slice a1 x.tones.length c1] 26)
  have RX := Lib.hid (RX.out.mono hba)
  have HB := Lib.hid (HB.out.trans (hba.mono HB.out.size))
  clear hba hz
  go_wp2_with fail
  rw [← hp]
  clear hp
  refine (R8Tune_any _ _ x1 (HY.out.mono HB.out) o1).mono ?_
  rintro e w2 ⟨vy, y, rfl, own, hdy, hb⟩
  obtain ⟨a2, c2, rfl⟩ := own.form
  have RY := Lib.hid own.rd
  have DY := Lib.hid hdy
  have VY := Lib.hid hdy.1
  have OY := Lib.hid (valid_ok hdy.1)
  have zy : y.tones.length ≤ 9 := hdy.2.1
  have zyy : y.tones.length ≤ 1048576 := by omega
  have HB := Lib.hid (HB.out.trans (hb.mono HB.out.size))
  have BX := Lib.hid (BX.out.mono hb)
  have RX := Lib.hid (RX.out.mono hb)
  clear own hdy hb
  obtain ⟨q, hq⟩ : ∃ q, q = w2.heap.size := ⟨_, rfl⟩
  have BY := Lib.hid (Box.alloc w2 [.string y.name, .slice a2 y.tones.length c2] 26 q hq.symm)
  have hba := belowA w2 (.cells #[.string y.name, .slice a2 y.tones.length c2] 26)
  have RY := Lib.hid (RY.out.mono hba)
  have HB := Lib.hid (HB.out.trans (hba.mono HB.out.size))
  have BX := Lib.hid (BX.out.mono hba)
  have RX := Lib.hid (RX.out.mono hba)
  clear hba
  go_wp2_with fail
  rw [← hq]
  clear hq
  refine (r8At_any _ x1 0 40 _ (HY.out.mono HB.out) o1 (by omega) (by omega) (by omega) (by omega)).mono ?_
  rintro e w' ⟨r, rfl, r0, r1, rfl⟩
  have wb : IntKind.i64.wrap (r - 20) = r - 20 := IntWalk.i64_in _ (by omega)
  have ua := BX.out.at' 0 _ rfl
  have ub := BX.out.at' 1 _ rfl
  have ul := BX.out.lt
  go_wp2_with fail
  refine (implTransposeTune_any _ x (r - 20) _ RX.out OX.out zxx (i64_b (by omega) (by omega))).mono ?_
  rintro e w3 ⟨vm, rfl, own, hb⟩
  obtain ⟨tr1, tr2, tr3, tr4, tr5⟩ := fn_trans (b := r - 20) DX.out (by omega) (by omega)
  rw [tr2]
  rw [tr1] at own
  obtain ⟨M, hM⟩ : ∃ M : TunD, M = ⟨x.name, x.tones.map (trF (r - 20))⟩ := ⟨_, rfl⟩
  have zm : M.tones.length ≤ 1048576 := by rw [hM]; simp; omega
  rw [← hM] at own tr3 tr4 tr5
  have T4 := Lib.hid tr4
  have T5 := Lib.hid tr5
  have OM := Lib.hid (valid_ok tr3)
  clear hM tr1 tr2 tr3 tr4 tr5
  obtain ⟨a3, c3, rfl⟩ := own.form
  have RM := Lib.hid own.rd
  have HB := Lib.hid (HB.out.trans (hb.mono HB.out.size))
  have BX := Lib.hid (BX.out.mono hb)
  have RX := Lib.hid (RX.out.mono hb)
  have BY := Lib.hid (BY.out.mono hb)
  have RY := Lib.hid (RY.out.mono hb)
  clear ua ub ul
  clear own hb
  obtain ⟨pm, hpm⟩ : ∃ q, q = w3.heap.size := ⟨_, rfl⟩
  have BM := Lib.hid (Box.alloc w3 [.string M.name, .slice a3 M.tones.length c3] 26 pm hpm.symm)
  have hba := belowA w3 (.cells #[.string M.name, .slice a3 M.tones.length c3] 26)
  have RM := Lib.hid (RM.out.mono hba)
  have HB := Lib.hid (HB.out.trans (hba.mono HB.out.size))
  have BX := Lib.hid (BX.out.mono hba)
  have RX := Lib.hid (RX.out.mono hba)
  have BY := Lib.hid (BY.out.mono hba)
  have RY := Lib.hid (RY.out.mono hba)
  clear hba
  have wn : IntKind.i64.wrap (-(r - 20)) = -(r - 20) := IntWalk.i64_in _ (by omega)
  have ua := BM.out.at' 0 _ rfl
  have ub := BM.out.at' 1 _ rfl
  have ul := BM.out.lt
  go_wp2_with fail
  rw [← hpm]
  clear hpm
  go_wp2_with fail
  refine (implTransposeTune_any _ M (-(r - 20)) _ RM.out OM.out zm (i64_b (by omega) (by omega))).mono ?_
  rintro e w4 ⟨vk, rfl, own, hb⟩
  rw [T5.out]
  rw [T4.out] at own
  obtain ⟨a4, c4, rfl⟩ := own.form
  have RK := Lib.hid own.rd
  have HB := Lib.hid (HB.out.trans (hb.mono HB.out.size))
  have BX := Lib.hid (BX.out.mono hb)
  have RX := Lib.hid (RX.out.mono hb)
  have BY := Lib.hid (BY.out.mono hb)
  have RY := Lib.hid (RY.out.mono hb)
  clear ua ub ul
  clear own hb BM RM OM T4 T5 zm
  obtain ⟨pk, hpk⟩ : ∃ q, q = w4.heap.size := ⟨_, rfl⟩
  have BK := Lib.hid (Box.alloc w4 [.string x.name, .slice a4 x.tones.length c4] 26 pk hpk.symm)
  have hba := belowA w4 (.cells #[.string x.name, .slice a4 x.tones.length c4] 26)
  have RK := Lib.hid (RK.out.mono hba)
  have HB := Lib.hid (HB.out.trans (hba.mono HB.out.size))
  have BX := Lib.hid (BX.out.mono hba)
  have RX := Lib.hid (RX.out.mono hba)
  have BY := Lib.hid (BY.out.mono hba)
  have RY := Lib.hid (RY.out.mono hba)
  clear hba
  have ua := BX.out.at' 0 _ rfl
  have ub := BX.out.at' 1 _ rfl
  have ul := BX.out.lt
  go_wp2_with fail
  rw [← hpk]
  clear hpk
  go_wp2_with fail
  refine (implTuneText_any _ x _ RX.out OX.out zxx (HLY.out.mono HB.out).tab).mono ?_
  rintro e w5 ⟨rfl, hb⟩
  have HB := Lib.hid (HB.out.trans (hb.mono HB.out.size))
  have BX := Lib.hid (BX.out.mono hb)
  have RX := Lib.hid (RX.out.mono hb)
  have BY := Lib.hid (BY.out.mono hb)
  have RY := Lib.hid (RY.out.mono hb)
  have BK := Lib.hid (BK.out.mono hb)
  have RK := Lib.hid (RK.out.mono hb)
  clear ua ub ul
  clear hb
  go_wp2_with fail
  refine (implReadTune_any (tunT x) _ (tunT_size VX.out) (HLY.out.mono HB.out)).mono ?_
  rintro e w6 ⟨ve, rfl, own, hb⟩
  obtain ⟨e1, e2⟩ := tune_read VX.out
  rw [e1]
  rw [e2] at own
  obtain ⟨a5, c5, rfl⟩ := own.form
  have RE := Lib.hid own.rd
  have HB := Lib.hid (HB.out.trans (hb.mono HB.out.size))
  have BX := Lib.hid (BX.out.mono hb)
  have RX := Lib.hid (RX.out.mono hb)
  have BY := Lib.hid (BY.out.mono hb)
  have RY := Lib.hid (RY.out.mono hb)
  have BK := Lib.hid (BK.out.mono hb)
  have RK := Lib.hid (RK.out.mono hb)
  clear own hb e1 e2
  obtain ⟨pe, hpe⟩ : ∃ q, q = w6.heap.size := ⟨_, rfl⟩
  have BE := Lib.hid (Box.alloc w6 [.string x.name, .slice a5 x.tones.length c5] 26 pe hpe.symm)
  have hba := belowA w6 (.cells #[.string x.name, .slice a5 x.tones.length c5] 26)
  have RE := Lib.hid (RE.out.mono hba)
  have HB := Lib.hid (HB.out.trans (hba.mono HB.out.size))
  have BX := Lib.hid (BX.out.mono hba)
  have RX := Lib.hid (RX.out.mono hba)
  have BY := Lib.hid (BY.out.mono hba)
  have RY := Lib.hid (RY.out.mono hba)
  have BK := Lib.hid (BK.out.mono hba)
  have RK := Lib.hid (RK.out.mono hba)
  clear hba
  have ua := BX.out.at' 0 _ rfl
  have ub := BX.out.at' 1 _ rfl
  have ul := BX.out.lt
  have sa := BK.out.at' 0 _ rfl
  have sb := BK.out.at' 1 _ rfl
  have sl := BK.out.lt
  go_wp2_with fail
  rw [← hpe]
  clear hpe
  go_wp2_with fail
  obtain ⟨l1, A1⟩ := RK.out
  obtain ⟨l2, A2⟩ := RX.out
  refine (specSameTun_any _ l1 _ l2 x x _ A1 A2).mono ?_
  rw [show decide (x = x) = true from decide_eq_true rfl]
  rintro e w7 ⟨rfl, hb⟩
  have HB := Lib.hid (HB.out.trans (hb.mono HB.out.size))
  have BX := Lib.hid (BX.out.mono hb)
  have RX := Lib.hid (RX.out.mono hb)
  have BY := Lib.hid (BY.out.mono hb)
  have RY := Lib.hid (RY.out.mono hb)
  have BE := Lib.hid (BE.out.mono hb)
  have RE := Lib.hid (RE.out.mono hb)
  clear ua ub ul
  clear sa sb sl
  clear hb A1 A2 BK RK
  have ua := BX.out.at' 0 _ rfl
  have ub := BX.out.at' 1 _ rfl
  have ul := BX.out.lt
  have sa := BE.out.at' 0 _ rfl
  have sb := BE.out.at' 1 _ rfl
  have sl := BE.out.lt
  go_wp2_with fail
  obtain ⟨l1, A1⟩ := RE.out
  obtain ⟨l2, A2⟩ := RX.out
  refine (specSameTun_any _ l1 _ l2 x x _ A1 A2).mono ?_
  rw [show decide (x = x) = true from decide_eq_true rfl]
  rintro e w8 ⟨rfl, hb⟩
  have HB := Lib.hid (HB.out.trans (hb.mono HB.out.size))
  have BX := Lib.hid (BX.out.mono hb)
  have RX := Lib.hid (RX.out.mono hb)
  have BY := Lib.hid (BY.out.mono hb)
  have RY := Lib.hid (RY.out.mono hb)
  clear ua ub ul
  clear sa sb sl
  clear hb A1 A2 BE RE
  go_wp2_with fail
  refine (r8At_any _ x1 1 50 _ (HY.out.mono HB.out) o1 (by omega) (by omega) (by omega) (by omega)).mono ?_
  rintro e w' ⟨g, rfl, g0, g1, rfl⟩
  have ua := BX.out.at' 0 _ rfl
  have ub := BX.out.at' 1 _ rfl
  have ul := BX.out.lt
  have sa := BY.out.at' 0 _ rfl
  have sb := BY.out.at' 1 _ rfl
  have sl := BY.out.lt
  go_wp2_with fail
  refine (implAppendTune_any _ x _ y g _ RX.out OX.out zxx RY.out OY.out zyy (i64_b (by omega) (by omega))).mono ?_
  rintro e w9 ⟨va, rfl, own, hb⟩
  obtain ⟨f1, f2, f3, f4, f5, f6, f7, f8, f9, f10, f11⟩ := fn_app (g := g) DX.out DY.out (by omega) (by omega)
  rw [f1]
  obtain ⟨A, hA⟩ : ∃ A, A = apV x y g := ⟨_, rfl⟩
  rw [← hA] at own f2 f3 f4 f5 f10 f11
  clear hA
  have OA := Lib.hid (valid_ok f2)
  have zaa : A.tones.length ≤ 1048576 := by omega
  have F5 := Lib.hid f5; have F6 := Lib.hid f6; have F7 := Lib.hid f7; have F10 := Lib.hid f10; have F11 := Lib.hid f11; have F3 := Lib.hid f3
  clear f1 f2 f5 f6 f7 f10 f11 f3
  obtain ⟨a6, c6, rfl⟩ := own.form
  have RA := Lib.hid own.rd
  have HB := Lib.hid (HB.out.trans (hb.mono HB.out.size))
  have BX := Lib.hid (BX.out.mono hb)
  have RX := Lib.hid (RX.out.mono hb)
  have BY := Lib.hid (BY.out.mono hb)
  have RY := Lib.hid (RY.out.mono hb)
  clear ua ub ul
  clear sa sb sl
  clear own hb
  obtain ⟨pa, hpa⟩ : ∃ q, q = w9.heap.size := ⟨_, rfl⟩
  have BA := Lib.hid (Box.alloc w9 [.string A.name, .slice a6 A.tones.length c6] 26 pa hpa.symm)
  have hba := belowA w9 (.cells #[.string A.name, .slice a6 A.tones.length c6] 26)
  have RA := Lib.hid (RA.out.mono hba)
  have HB := Lib.hid (HB.out.trans (hba.mono HB.out.size))
  have BX := Lib.hid (BX.out.mono hba)
  have RX := Lib.hid (RX.out.mono hba)
  have BY := Lib.hid (BY.out.mono hba)
  have RY := Lib.hid (RY.out.mono hba)
  clear hba
  have ua := BX.out.at' 0 _ rfl
  have ub := BX.out.at' 1 _ rfl
  have ul := BX.out.lt
  go_wp2_with fail
  rw [← hpa]
  clear hpa
  go_wp2_with fail
  refine (implTuneEnd_any _ x _ RX.out OX.out zxx).mono ?_
  rw [F6.out, fn_codes VX.out]
  rintro e w10 ⟨rfl, hb⟩
  have HB := Lib.hid (HB.out.trans (hb.mono HB.out.size))
  have BX := Lib.hid (BX.out.mono hb)
  have RX := Lib.hid (RX.out.mono hb)
  have BY := Lib.hid (BY.out.mono hb)
  have RY := Lib.hid (RY.out.mono hb)
  have BA := Lib.hid (BA.out.mono hb)
  have RA := Lib.hid (RA.out.mono hb)
  clear ua ub ul
  clear hb
  have ua := BY.out.at' 0 _ rfl
  have ub := BY.out.at' 1 _ rfl
  have ul := BY.out.lt
  go_wp2_with fail
  refine (implTuneEnd_any _ y _ RY.out OY.out zyy).mono ?_
  rw [F7.out, fn_codes VY.out]
  rintro e w11 ⟨rfl, hb⟩
  have HB := Lib.hid (HB.out.trans (hb.mono HB.out.size))
  have BX := Lib.hid (BX.out.mono hb)
  have RX := Lib.hid (RX.out.mono hb)
  have BY := Lib.hid (BY.out.mono hb)
  have RY := Lib.hid (RY.out.mono hb)
  have BA := Lib.hid (BA.out.mono hb)
  have RA := Lib.hid (RA.out.mono hb)
  clear ua ub ul
  clear hb
  have ua := BA.out.at' 0 _ rfl
  have ub := BA.out.at' 1 _ rfl
  have ul := BA.out.lt
  go_wp2_with fail
  refine (implTuneEnd_any _ A _ RA.out OA.out zaa).mono ?_
  rw [F5.out]
  rintro e w12 ⟨rfl, hb⟩
  have HB := Lib.hid (HB.out.trans (hb.mono HB.out.size))
  have BX := Lib.hid (BX.out.mono hb)
  have RX := Lib.hid (RX.out.mono hb)
  have BY := Lib.hid (BY.out.mono hb)
  have RY := Lib.hid (RY.out.mono hb)
  have BA := Lib.hid (BA.out.mono hb)
  have RA := Lib.hid (RA.out.mono hb)
  clear ua ub ul
  clear hb
  obtain ⟨ex, hex⟩ : ∃ e, e = endOf x.tones := ⟨_, rfl⟩
  obtain ⟨ey, hey⟩ : ∃ e, e = endOf y.tones := ⟨_, rfl⟩
  obtain ⟨ea, hea⟩ : ∃ e, e = tuneEndV A := ⟨_, rfl⟩
  have F10 := Lib.hid (show 0 < y.tones.length → ea = ex + g + ey by rw [hea, hex, hey]; exact F10.out)
  have F11 := Lib.hid (show y.tones.length = 0 → ea = ex by rw [hea, hex]; exact F11.out)
  rw [← hex] at f8
  rw [← hey] at f9
  rw [← hex, ← hey, ← hea]
  clear hex hey hea
  have ws1 : IntKind.i64.wrap (ex + g) = ex + g := IntWalk.i64_in _ (by omega)
  have ws2 : IntKind.i64.wrap (ex + g + ey) = ex + g + ey := IntWalk.i64_in _ (by omega)
  have wl : IntKind.i64.wrap ((x.tones.length : Int) + (y.tones.length : Int)) = (x.tones.length : Int) + (y.tones.length : Int) := IntWalk.i64_in _ (by omega)
  have dl : ((A.tones.length : Int) != (x.tones.length : Int) + (y.tones.length : Int)) = false := by rw [F3.out]; simp
  have fin : decide (0 < (y.tones.length : Int)) = !((y.tones.length : Int) == 0) := by
    by_cases h : y.tones.length = 0
    · simp [h]
    · have : 0 < y.tones.length := by omega
      simp [h, this]
  have ua := BX.out.at' 0 _ rfl
  have ub := BX.out.at' 1 _ rfl
  have ul := BX.out.lt
  have sa := BY.out.at' 0 _ rfl
  have sb := BY.out.at' 1 _ rfl
  have sl := BY.out.lt
  have za := BA.out.at' 0 _ rfl
  have zb := BA.out.at' 1 _ rfl
  have zl := BA.out.lt
  by_cases hy0 : y.tones.length = 0
  · have d1 : decide (0 < (y.tones.length : Int)) = false := decide_eq_false (by omega)
    have d2 : ((y.tones.length : Int) == 0) = true := beq_iff_eq.2 (by omega)
    have d3 : (ea != ex) = false := by rw [F11.out hy0]; simp
    have d4 : ¬ 0 < y.tones.length := by omega
    clear hy0 fin
    go_wp2_with fail
    refine (implNotesUsed_any _ x _ RX.out OX.out zxx).mono ?_
    rw [fn_codes VX.out]
    rintro e w13 ⟨vu, rfl, own, hb⟩
    obtain ⟨a7, c7, rfl⟩ := own.form
    obtain ⟨us, hus⟩ : ∃ u, u = usedV x := ⟨_, rfl⟩
    have hul : us.length ≤ 9 := by rw [hus]; exact Nat.le_trans (used_le x) zx
    rw [← hus] at own ⊢
    have HUS := Lib.hid hus
    clear hus
    have RU := Lib.hid own.rd
    have HB := Lib.hid (HB.out.trans (hb.mono HB.out.size))
    have BX := Lib.hid (BX.out.mono hb)
    have RX := Lib.hid (RX.out.mono hb)
    clear ua ub ul
    clear sa sb sl
    clear za zb zl
    clear own hb d1 d2 d3 d4 ws1 ws2 wl dl BY RY BA RA OA F3 F5 F6 F7 F10 F11
    have ua := BX.out.at' 0 _ rfl
    have ub := BX.out.at' 1 _ rfl
    have ul := BX.out.lt
    go_wp2_with fail
    refine wp_region_ord [(0, true), (1, true), (2, false), (3, false), (4, true), (5, true), (6, true), (7, true), (8, true)] (none) (by kernel_rfl) (by kernel_rfl) ?_
    (repeat (with_reducible refine wpOrd_soft (fun K hK => ?_); simp only [List.getElem?_toArray, List.getElem?_cons_zero, List.getElem?_cons_succ]; first | (go_simp; refine hK _ ?_) | (simp only [undef]; go_simp; refine hK _ ?_); clear hK K))
    (with_reducible refine wpOrd_hard ?_; simp only [List.getElem?_toArray, List.getElem?_cons_zero, List.getElem?_cons_succ])
    go_wp2_with fail
    have hdr : Below w13.heap.size w13 w13.drew := ((Q.refl w13).drew).below _
    refine (r8Wide_any _ x1 2 400 _ ((HY.out.mono HB.out).mono hdr) o1 (by omega) (by omega) (by omega) (by omega)).mono ?_
    rintro e w' ⟨t, rfl, t0, t1, rfl⟩
    go_wp2_with fail
    refine ⟨grown_of_below hdr, ?_⟩
    (repeat (with_reducible refine wpOrd_soft (fun K hK => ?_); simp only [List.getElem?_toArray, List.getElem?_cons_zero, List.getElem?_cons_succ]; first | (go_simp; refine hK _ ?_) | (simp only [undef]; go_simp; refine hK _ ?_); clear hK K))
    (with_reducible refine wpOrd_hard ?_; simp only [List.getElem?_toArray, List.getElem?_cons_zero, List.getElem?_cons_succ])
    go_wp2_with fail
    obtain ⟨s1, s2⟩ := sound_used (t := t) VX.out t0 (by omega)
    refine (implSoundingAt_any _ x t _ (RX.out.mono hdr) OX.out zxx (i64_b (by omega) (by omega))).mono ?_
    rw [s1]
    rintro e w14 ⟨vn, rfl, own, hb⟩
    obtain ⟨a8, c8, rfl⟩ := own.form
    obtain ⟨ns, hns⟩ : ∃ u, u = soundV x t := ⟨_, rfl⟩
    have hnl : ns.length ≤ 1048576 := by rw [hns]; exact sound_len x t zxx
    rw [← hns] at own s2 ⊢
    rw [← HUS.out] at s2
    have HNS := Lib.hid s2
    have RN := Lib.hid own.rd
    have st := undrew hb
    have HB := Lib.hid (HB.out.trans (st.mono HB.out.size))
    have BX := Lib.hid (BX.out.mono st)
    have RX := Lib.hid (RX.out.mono st)
    have RU := Lib.hid (RU.out.mono st)
    clear ua ub ul
    clear own s1 s2 hns hb hdr
    go_wp2_with fail
    refine ⟨grown_of_below st, ?_⟩
    (repeat (with_reducible refine wpOrd_soft (fun K hK => ?_); simp only [List.getElem?_toArray, List.getElem?_cons_zero, List.getElem?_cons_succ]; first | (go_simp; refine hK _ ?_) | (simp only [undef]; go_simp; refine hK _ ?_); clear hK K))
    (with_reducible refine wpOrd_nil ?_); refine NoPanic.normal ?_
    clear st
    have ua := BX.out.at' 0 _ rfl
    have ub := BX.out.at' 1 _ rfl
    have ul := BX.out.lt
    go_wp2_with fail
    refine (implMostAtOnce_any _ x _ RX.out OX.out zxx).mono ?_
    rw [fn_codes VX.out]
    obtain ⟨m0, m1⟩ := most_used VX.out
    rw [← HUS.out] at m1
    obtain ⟨ms, hms⟩ : ∃ m, m = mostV x := ⟨_, rfl⟩
    rw [← hms] at m0 m1 ⊢
    clear hms
    rintro e w15 ⟨rfl, hb⟩
    have HB := Lib.hid (HB.out.trans (hb.mono HB.out.size))
    have BX := Lib.hid (BX.out.mono hb)
    have RX := Lib.hid (RX.out.mono hb)
    have RU := Lib.hid (RU.out.mono hb)
    have RN := Lib.hid (RN.out.mono hb)
    clear ua ub ul
    clear hb
    have e1 : ¬ ms < 0 := by omega
    have e2 : ¬ (us.length : Int) < ms := by omega
    go_wp2_with fail
    clear e1 e2
    go_loopw [29, 30, 31] (fun i _ _ wr => ∃ k : Nat, k ≤ ns.length ∧ i = .int .i64 (k : Int) ∧ Below w15.heap.size w15 wr) (fun i _ _ _ => ns.length - (intOf i).toNat)
    case atStart => exact ⟨0, Nat.zero_le _, by go_num, Below.refl _ _⟩
    case round =>
      obtain ⟨k, hk, rfl, hbr⟩ := hrel
      have HBR := Lib.hid hbr
      have hzr := hbr.size
      clear hbr
      by_cases hlt : k < ns.length
      · go_wp2_with fail
        go_loopw [30, 31] (fun f j wq => ∃ (m : Nat) (b : Bool), m ≤ us.length ∧ j = .int .i64 (m : Int) ∧ f = .bool b ∧ b = decide (ns[k] ∈ us.take m) ∧ Q wr wq) (fun _ j _ => us.length - (intOf j).toNat)
        case atStart => exact ⟨0, false, Nat.zero_le _, by go_num, rfl, by simp, Q.refl _⟩
        case round =>
          obtain ⟨wo, hwo⟩ : ∃ wo : World, wo = wr := ⟨_, rfl⟩
          obtain ⟨m, b, hm, rfl, rfl, hbd, hq⟩ := hrel
          have HBD := Lib.hid hbd
          have HQ := Lib.hid hq
          clear hbd
          by_cases hlm : m < us.length
          · obtain ⟨b1, o1, rfl, q1⟩ := Sl.cells (((show Ints w15 _ us from RU.out).mono HBR.out).q hq) (by simp; omega)
            obtain ⟨b2, o2, rfl, q2⟩ := Sl.cells (((show Ints w15 _ ns from RN.out).mono HBR.out).q hq) (by simp; omega)
            have z1 : wr.cell? ⟨b1, o1 + m, none⟩ = some (.int .i64 us[m]) := q1 m _ (by simp [hlm])
            have z2 : wr.cell? ⟨b2, o2 + k, none⟩ = some (.int .i64 ns[k]) := q2 k _ (by simp [hlt])
            have HT := Lib.hid (List.take_succ_eq_append_getElem hlm)
            clear q1 q2 hq
            cases b
            · cases hr : (us[m] == ns[k])
              · have HB2 := Lib.hid (show false = decide (ns[k] ∈ us.take (m + 1)) by
                  rw [HT.out]
                  have h1 := HBD.out
                  symm at h1 ⊢
                  rw [decide_eq_false_iff_not] at h1 ⊢
                  intro h
                  rcases List.mem_append.1 h with h | h
                  · exact h1 h
                  · rw [List.mem_singleton.1 h] at hr; simp at hr)
                go_wp2
                go_quiet (fail)
                go_wp2
                go_roundw
                case rel => exact ⟨m + 1, false, by omega, by go_num, rfl, HB2.out, HQ.out.drewN _⟩
                case measure => simp [intOf] <;> omega
              · have HB2 := Lib.hid (show true = decide (ns[k] ∈ us.take (m + 1)) by
                  rw [HT.out]
                  symm
                  apply decide_eq_true
                  exact List.mem_append.2 (.inr (by rw [beq_iff_eq.1 hr]; simp)))
                go_wp2
                go_quiet (fail)
                go_wp2
                go_roundw
                case rel => exact ⟨m + 1, true, by omega, by go_num, rfl, HB2.out, HQ.out.drewN _⟩
                case measure => simp [intOf] <;> omega
            · have HB2 := Lib.hid (show true = decide (ns[k] ∈ us.take (m + 1)) by
                rw [HT.out]
                symm
                apply decide_eq_true
                exact List.mem_append.2 (.inl (of_decide_eq_true HBD.out.symm)))
              go_wp2
              go_quiet (fail)
              go_wp2
              go_roundw
              case rel => exact ⟨m + 1, true, by omega, by go_num, rfl, HB2.out, HQ.out.drewN _⟩
              case measure => simp [intOf] <;> omega
          · obtain rfl : m = us.length := by omega
            obtain rfl : b = true := by
              rw [HBD.out]
              apply decide_eq_true
              rw [List.take_length]
              exact HNS.out _ (List.getElem_mem hlt)
            have HB3 := Lib.hid (HBR.out.trans ((HQ.out.below _).mono hzr))
            clear hq hwo
            go_wp2
            go_roundw
            case rel => exact ⟨k + 1, by omega, by go_num, HB3.out⟩
            case measure => simp [intOf] <;> omega
      · obtain rfl : k = ns.length := by omega
        have HB := Lib.hid (HB.out.trans (HBR.out.mono HB.out.size))
        have BX := Lib.hid (BX.out.mono HBR.out)
        have RX := Lib.hid (RX.out.mono HBR.out)
        clear hlt hk HBR hzr RN RU HNS HUS
        have ua := BX.out.at' 0 _ rfl
        have ub := BX.out.at' 1 _ rfl
        have ul := BX.out.lt
        go_wp2_with fail
        obtain ⟨g1, g2⟩ := fn_str VX.out
        refine (implStretchTune_any _ x 3 3 _ RX.out OX.out zxx (i64_b (by omega) (by omega)) (i64_b (by omega) (by omega))).mono ?_
        rw [g2]
        rintro e w16 ⟨vs, rfl, own, hb⟩
        rw [g1] at own
        obtain ⟨a9, c9, rfl⟩ := own.form
        have RS := Lib.hid own.rd
        have HB := Lib.hid (HB.out.trans (hb.mono HB.out.size))
        have BX := Lib.hid (BX.out.mono hb)
        have RX := Lib.hid (RX.out.mono hb)
        clear ua ub ul
        clear own hb g1 g2
        obtain ⟨ps, hps⟩ : ∃ q, q = w16.heap.size := ⟨_, rfl⟩
        have BS := Lib.hid (Box.alloc w16 [.string x.name, .slice a9 x.tones.length c9] 26 ps hps.symm)
        have hba := belowA w16 (.cells #[.string x.name, .slice a9 x.tones.length c9] 26)
        have RS := Lib.hid (RS.out.mono hba)
        have HB := Lib.hid (HB.out.trans (hba.mono HB.out.size))
        have BX := Lib.hid (BX.out.mono hba)
        have RX := Lib.hid (RX.out.mono hba)
        clear hba
        have ua := BX.out.at' 0 _ rfl
        have ub := BX.out.at' 1 _ rfl
        have ul := BX.out.lt
        have sa := BS.out.at' 0 _ rfl
        have sb := BS.out.at' 1 _ rfl
        have sl := BS.out.lt
        go_wp2_with fail
        rw [← hps]
        clear hps
        go_wp2_with fail
        obtain ⟨l1, A1⟩ := RS.out
        obtain ⟨l2, A2⟩ := RX.out
        refine (specSameTun_any _ l1 _ l2 x x _ A1 A2).mono ?_
        rw [show decide (x = x) = true from decide_eq_true rfl]
        rintro e w17 ⟨rfl, hb⟩
        have HB := Lib.hid (HB.out.trans (hb.mono HB.out.size))
        clear hb
        go_wp2
        go_ret
        exact ⟨rfl, HB.out⟩
  · have d1 : decide (0 < (y.tones.length : Int)) = true := decide_eq_true (by omega)
    have d2 : ((y.tones.length : Int) == 0) = false := beq_eq_false_iff_ne.2 (by omega)
    have d3 : (ea != ex + g + ey) = false := by rw [F10.out (by omega)]; simp
    have d4 : 0 < y.tones.length := by omega
    clear hy0 fin
    go_wp2_with fail
    refine (implNotesUsed_any _ x _ RX.out OX.out zxx).mono ?_
    rw [fn_codes VX.out]
    rintro e w13 ⟨vu, rfl, own, hb⟩
    obtain ⟨a7, c7, rfl⟩ := own.form
    obtain ⟨us, hus⟩ : ∃ u, u = usedV x := ⟨_, rfl⟩
    have hul : us.length ≤ 9 := by rw [hus]; exact Nat.le_trans (used_le x) zx
    rw [← hus] at own ⊢
    have HUS := Lib.hid hus
    clear hus
    have RU := Lib.hid own.rd
    have HB := Lib.hid (HB.out.trans (hb.mono HB.out.size))
    have BX := Lib.hid (BX.out.mono hb)
    have RX := Lib.hid (RX.out.mono hb)
    clear ua ub ul
    clear sa sb sl
    clear za zb zl
    clear own hb d1 d2 d3 d4 ws1 ws2 wl dl BY RY BA RA OA F3 F5 F6 F7 F10 F11
    have ua := BX.out.at' 0 _ rfl
    have ub := BX.out.at' 1 _ rfl
    have ul := BX.out.lt
    go_wp2_with fail
    refine wp_region_ord [(0, true), (1, true), (2, false), (3, false), (4, true), (5, true), (6, true), (7, true), (8, true)] (none) (by kernel_rfl) (by kernel_rfl) ?_
    (repeat (with_reducible refine wpOrd_soft (fun K hK => ?_); simp only [List.getElem?_toArray, List.getElem?_cons_zero, List.getElem?_cons_succ]; first | (go_simp; refine hK _ ?_) | (simp only [undef]; go_simp; refine hK _ ?_); clear hK K))
    (with_reducible refine wpOrd_hard ?_; simp only [List.getElem?_toArray, List.getElem?_cons_zero, List.getElem?_cons_succ])
    go_wp2_with fail
    have hdr : Below w13.heap.size w13 w13.drew := ((Q.refl w13).drew).below _
    refine (r8Wide_any _ x1 2 400 _ ((HY.out.mono HB.out).mono hdr) o1 (by omega) (by omega) (by omega) (by omega)).mono ?_
    rintro e w' ⟨t, rfl, t0, t1, rfl⟩
    go_wp2_with fail
    refine ⟨grown_of_below hdr, ?_⟩
    (repeat (with_reducible refine wpOrd_soft (fun K hK => ?_); simp only [List.getElem?_toArray, List.getElem?_cons_zero, List.getElem?_cons_succ]; first | (go_simp; refine hK _ ?_) | (simp only [undef]; go_simp; refine hK _ ?_); clear hK K))
    (with_reducible refine wpOrd_hard ?_; simp only [List.getElem?_toArray, List.getElem?_cons_zero, List.getElem?_cons_succ])
    go_wp2_with fail
    obtain ⟨s1, s2⟩ := sound_used (t := t) VX.out t0 (by omega)
    refine (implSoundingAt_any _ x t _ (RX.out.mono hdr) OX.out zxx (i64_b (by omega) (by omega))).mono ?_
    rw [s1]
    rintro e w14 ⟨vn, rfl, own, hb⟩
    obtain ⟨a8, c8, rfl⟩ := own.form
    obtain ⟨ns, hns⟩ : ∃ u, u = soundV x t := ⟨_, rfl⟩
    have hnl : ns.length ≤ 1048576 := by rw [hns]; exact sound_len x t zxx
    rw [← hns] at own s2 ⊢
    rw [← HUS.out] at s2
    have HNS := Lib.hid s2
    have RN := Lib.hid own.rd
    have st := undrew hb
    have HB := Lib.hid (HB.out.trans (st.mono HB.out.size))
    have BX := Lib.hid (BX.out.mono st)
    have RX := Lib.hid (RX.out.mono st)
    have RU := Lib.hid (RU.out.mono st)
    clear ua ub ul
    clear own s1 s2 hns hb hdr
    go_wp2_with fail
    refine ⟨grown_of_below st, ?_⟩
    (repeat (with_reducible refine wpOrd_soft (fun K hK => ?_); simp only [List.getElem?_toArray, List.getElem?_cons_zero, List.getElem?_cons_succ]; first | (go_simp; refine hK _ ?_) | (simp only [undef]; go_simp; refine hK _ ?_); clear hK K))
    (with_reducible refine wpOrd_nil ?_); refine NoPanic.normal ?_
    clear st
    have ua := BX.out.at' 0 _ rfl
    have ub := BX.out.at' 1 _ rfl
    have ul := BX.out.lt
    go_wp2_with fail
    refine (implMostAtOnce_any _ x _ RX.out OX.out zxx).mono ?_
    rw [fn_codes VX.out]
    obtain ⟨m0, m1⟩ := most_used VX.out
    rw [← HUS.out] at m1
    obtain ⟨ms, hms⟩ : ∃ m, m = mostV x := ⟨_, rfl⟩
    rw [← hms] at m0 m1 ⊢
    clear hms
    rintro e w15 ⟨rfl, hb⟩
    have HB := Lib.hid (HB.out.trans (hb.mono HB.out.size))
    have BX := Lib.hid (BX.out.mono hb)
    have RX := Lib.hid (RX.out.mono hb)
    have RU := Lib.hid (RU.out.mono hb)
    have RN := Lib.hid (RN.out.mono hb)
    clear ua ub ul
    clear hb
    have e1 : ¬ ms < 0 := by omega
    have e2 : ¬ (us.length : Int) < ms := by omega
    go_wp2_with fail
    clear e1 e2
    go_loopw [29, 30, 31] (fun i _ _ wr => ∃ k : Nat, k ≤ ns.length ∧ i = .int .i64 (k : Int) ∧ Below w15.heap.size w15 wr) (fun i _ _ _ => ns.length - (intOf i).toNat)
    case atStart => exact ⟨0, Nat.zero_le _, by go_num, Below.refl _ _⟩
    case round =>
      obtain ⟨k, hk, rfl, hbr⟩ := hrel
      have HBR := Lib.hid hbr
      have hzr := hbr.size
      clear hbr
      by_cases hlt : k < ns.length
      · go_wp2_with fail
        go_loopw [30, 31] (fun f j wq => ∃ (m : Nat) (b : Bool), m ≤ us.length ∧ j = .int .i64 (m : Int) ∧ f = .bool b ∧ b = decide (ns[k] ∈ us.take m) ∧ Q wr wq) (fun _ j _ => us.length - (intOf j).toNat)
        case atStart => exact ⟨0, false, Nat.zero_le _, by go_num, rfl, by simp, Q.refl _⟩
        case round =>
          obtain ⟨wo, hwo⟩ : ∃ wo : World, wo = wr := ⟨_, rfl⟩
          obtain ⟨m, b, hm, rfl, rfl, hbd, hq⟩ := hrel
          have HBD := Lib.hid hbd
          have HQ := Lib.hid hq
          clear hbd
          by_cases hlm : m < us.length
          · obtain ⟨b1, o1, rfl, q1⟩ := Sl.cells (((show Ints w15 _ us from RU.out).mono HBR.out).q hq) (by simp; omega)
            obtain ⟨b2, o2, rfl, q2⟩ := Sl.cells (((show Ints w15 _ ns from RN.out).mono HBR.out).q hq) (by simp; omega)
            have z1 : wr.cell? ⟨b1, o1 + m, none⟩ = some (.int .i64 us[m]) := q1 m _ (by simp [hlm])
            have z2 : wr.cell? ⟨b2, o2 + k, none⟩ = some (.int .i64 ns[k]) := q2 k _ (by simp [hlt])
            have HT := Lib.hid (List.take_succ_eq_append_getElem hlm)
            clear q1 q2 hq
            cases b
            · cases hr : (us[m] == ns[k])
              · have HB2 := Lib.hid (show false = decide (ns[k] ∈ us.take (m + 1)) by
                  rw [HT.out]
                  have h1 := HBD.out
                  symm at h1 ⊢
                  rw [decide_eq_false_iff_not] at h1 ⊢
                  intro h
                  rcases List.mem_append.1 h with h | h
                  · exact h1 h
                  · rw [List.mem_singleton.1 h] at hr; simp at hr)
                go_wp2
                go_quiet (fail)
                go_wp2
                go_roundw
                case rel => exact ⟨m + 1, false, by omega, by go_num, rfl, HB2.out, HQ.out.drewN _⟩
                case measure => simp [intOf] <;> omega
              · have HB2 := Lib.hid (show true = decide (ns[k] ∈ us.take (m + 1)) by
                  rw [HT.out]
                  symm
                  apply decide_eq_true
                  exact List.mem_append.2 (.inr (by rw [beq_iff_eq.1 hr]; simp)))
                go_wp2
                go_quiet (fail)
                go_wp2
                go_roundw
                case rel => exact ⟨m + 1, true, by omega, by go_num, rfl, HB2.out, HQ.out.drewN _⟩
                case measure => simp [intOf] <;> omega
            · have HB2 := Lib.hid (show true = decide (ns[k] ∈ us.take (m + 1)) by
                rw [HT.out]
                symm
                apply decide_eq_true
                exact List.mem_append.2 (.inl (of_decide_eq_true HBD.out.symm)))
              go_wp2
              go_quiet (fail)
              go_wp2
              go_roundw
              case rel => exact ⟨m + 1, true, by omega, by go_num, rfl, HB2.out, HQ.out.drewN _⟩
              case measure => simp [intOf] <;> omega
          · obtain rfl : m = us.length := by omega
            obtain rfl : b = true := by
              rw [HBD.out]
              apply decide_eq_true
              rw [List.take_length]
              exact HNS.out _ (List.getElem_mem hlt)
            have HB3 := Lib.hid (HBR.out.trans ((HQ.out.below _).mono hzr))
            clear hq hwo
            go_wp2
            go_roundw
            case rel => exact ⟨k + 1, by omega, by go_num, HB3.out⟩
            case measure => simp [intOf] <;> omega
      · obtain rfl : k = ns.length := by omega
        have HB := Lib.hid (HB.out.trans (HBR.out.mono HB.out.size))
        have BX := Lib.hid (BX.out.mono HBR.out)
        have RX := Lib.hid (RX.out.mono HBR.out)
        clear hlt hk HBR hzr RN RU HNS HUS
        have ua := BX.out.at' 0 _ rfl
        have ub := BX.out.at' 1 _ rfl
        have ul := BX.out.lt
        go_wp2_with fail
        obtain ⟨g1, g2⟩ := fn_str VX.out
        refine (implStretchTune_any _ x 3 3 _ RX.out OX.out zxx (i64_b (by omega) (by omega)) (i64_b (by omega) (by omega))).mono ?_
        rw [g2]
        rintro e w16 ⟨vs, rfl, own, hb⟩
        rw [g1] at own
        obtain ⟨a9, c9, rfl⟩ := own.form
        have RS := Lib.hid own.rd
        have HB := Lib.hid (HB.out.trans (hb.mono HB.out.size))
        have BX := Lib.hid (BX.out.mono hb)
        have RX := Lib.hid (RX.out.mono hb)
        clear ua ub ul
        clear own hb g1 g2
        obtain ⟨ps, hps⟩ : ∃ q, q = w16.heap.size := ⟨_, rfl⟩
        have BS := Lib.hid (Box.alloc w16 [.string x.name, .slice a9 x.tones.length c9] 26 ps hps.symm)
        have hba := belowA w16 (.cells #[.string x.name, .slice a9 x.tones.length c9] 26)
        have RS := Lib.hid (RS.out.mono hba)
        have HB := Lib.hid (HB.out.trans (hba.mono HB.out.size))
        have BX := Lib.hid (BX.out.mono hba)
        have RX := Lib.hid (RX.out.mono hba)
        clear hba
        have ua := BX.out.at' 0 _ rfl
        have ub := BX.out.at' 1 _ rfl
        have ul := BX.out.lt
        have sa := BS.out.at' 0 _ rfl
        have sb := BS.out.at' 1 _ rfl
        have sl := BS.out.lt
        go_wp2_with fail
        rw [← hps]
        clear hps
        go_wp2_with fail
        obtain ⟨l1, A1⟩ := RS.out
        obtain ⟨l2, A2⟩ := RX.out
        refine (specSameTun_any _ l1 _ l2 x x _ A1 A2).mono ?_
        rw [show decide (x = x) = true from decide_eq_true rfl]
        rintro e w17 ⟨rfl, hb⟩
        have HB := Lib.hid (HB.out.trans (hb.mono HB.out.size))
        clear hb
        go_wp2
        go_ret
        exact ⟨rfl, HB.out⟩

end Go.Proofs.YtgdfecnpkjnhnaaGreatDoor
