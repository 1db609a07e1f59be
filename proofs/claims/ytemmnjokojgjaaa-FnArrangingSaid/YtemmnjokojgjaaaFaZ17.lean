import Derived.Test.YtemmnjokojgjaaaFaZ8
import Derived.Test.YtemmnjokojgjaaaFaZ12
import Derived.Test.YtemmnjokojgjaaaFaZ14
import Derived.Test.YtemmnjokojgjaaaFaZ16
/- The law FnArranging returns true and leaves memory as it was. -/
set_option linter.unusedSimpArgs false
set_option linter.unnecessarySimpa false
set_option linter.unusedVariables false
set_option maxRecDepth 100000
namespace Go.Proofs.Ytemmnjokojgjaaa
open Go.RowKit

theorem i64_smB {n : Int} (h0 : -1000000000 ≤ n) (h1 : n ≤ 1000000000) : I64 n := by simp only [I64, Lit.wf, IntKind.min, IntKind.max, IntKind.signed, IntKind.bits]; simp; omega
theorem smT_ok {x : TunD} (h : smT x) : x.ok := ⟨by have := h.name; unfold maxLen; omega, fun l hl => by
  obtain ⟨a1, a2, a3⟩ := h.tones l hl
  exact ⟨i64_smB (by omega) (by omega), i64_smB (by omega) (by omega), i64_smB (by omega) (by omega)⟩⟩
theorem smS_ok {xs : List Int} (h : smS xs) : ∀ x ∈ xs, I64 x := fun x hx => by have := h.1 x hx; exact i64_smB (by omega) (by omega)



set_option maxHeartbeats 4000000 in
theorem lawArranging (w : World) (v0 : Value) (x0 : List Int) (h0 : Byts w v0 x0) (o0 : okByts x0) (v1 : Value) (x1 : List Int) (h1 : Byts w v1 x1) (o1 : okByts x1) :
    Calls Try.prog 6 #[v0, v1] w fun e w' => e = .returned (.bool true) ∧ Below w.heap.size w w' := by
  obtain ⟨a0, ca, rfl, hca, hcm, _⟩ := id h0
  obtain ⟨b0, cb, rfl, hcb, hcm2, _⟩ := id h1
  have hm : x0.length ≤ maxLen := by omega
  have hm2 : x1.length ≤ maxLen := by omega
  unfold maxLen at hm hm2
  clear hca hcm hcb hcm2
  by_cases gl : x0.length ≤ 1048576
  rotate_left
  · have d1 : decide (1048576 < (x0.length : Int)) = true := decide_eq_true (by omega)
    go_enter Try.func6, Try.ntmps6
    go_wp2_with fail
    refine (b10Long_any a0 x0.length ca _ (by omega)).mono ?_
    rw [d1]
    rintro e w' ⟨rfl, rfl⟩
    go_wp2
    go_ret
    exact ⟨rfl, Below.refl _ _⟩
  have d1 : decide (1048576 < (x0.length : Int)) = false := decide_eq_false (by omega)
  by_cases gl2 : x1.length ≤ 1048576
  rotate_left
  · have d2 : decide (1048576 < (x1.length : Int)) = true := decide_eq_true (by omega)
    go_enter Try.func6, Try.ntmps6
    go_wp2_with fail
    refine (b10Long_any a0 x0.length ca _ (by omega)).mono ?_
    rw [d1]
    rintro e w' ⟨rfl, rfl⟩
    go_wp2_with fail
    refine (b10Long_any b0 x1.length cb _ (by omega)).mono ?_
    rw [d2]
    rintro e w' ⟨rfl, rfl⟩
    go_wp2
    go_ret
    exact ⟨rfl, Below.refl _ _⟩
  have d2 : decide (1048576 < (x1.length : Int)) = false := decide_eq_false (by omega)
  have HY := Lib.hid h1
  go_enter Try.func6, Try.ntmps6
  go_wp2_with fail
  refine (b10Long_any a0 x0.length ca _ (by omega)).mono ?_
  rw [d1]
  rintro e w' ⟨rfl, rfl⟩
  go_wp2_with fail
  refine (b10Long_any b0 x1.length cb _ (by omega)).mono ?_
  rw [d2]
  rintro e w' ⟨rfl, rfl⟩
  go_wp2_with fail
  refine (DrawArrangeTune_any w _ x0 h0 o0).mono ?_
  rintro e w1 ⟨vx, vn, x, ns, b, rfl, own, sm, hns, sms, hbb, hb⟩
  obtain ⟨a1, c1, rfl⟩ := own.form
  obtain ⟨a2, c2, rfl⟩ := hns.form
  have RX := Lib.hid own.rd
  have RN := Lib.hid hns.rd
  have OX := Lib.hid (smT_ok sm)
  have ON := Lib.hid (smS_ok sms)
  have zx : x.tones.length ≤ 1048576 := by have := sm.len; omega
  have zn : ns.length ≤ 1048576 := by have := sms.2; omega
  have IB := Lib.hid (i64_smB (n := b) (by omega) (by omega))
  have hz := hb.size
  have HB := Lib.hid hb
  clear own sm hns sms hb h0 h1 gl gl2 d1 d2
  obtain ⟨p, hp⟩ : ∃ p, p = w1.heap.size := ⟨_, rfl⟩
  have BX := Lib.hid (Box.alloc w1 [.string x.name, .slice a1 x.tones.length c1] 29 p hp.symm)
  have hba := belowA w1 (.cells #[.string x.name, .slice a1 x.tones.length c1] 29)
  have RX := Lib.hid (RX.out.mono hba)
  have RN := Lib.hid (RN.out.mono hba)
  have HB := Lib.hid (HB.out.trans (hba.mono HB.out.size))
  clear hba hz
  have ua := BX.out.at' 0 _ rfl
  have ub := BX.out.at' 1 _ rfl
  have ul := BX.out.lt
  go_wp2_with fail
  rw [← hp]
  clear hp
  go_wp2_with fail
  refine (implArrangeTune_any _ x _ ns b _ RX.out OX.out zx RN.out ON.out zn IB.out).mono ?_
  rintro e w2 ⟨vy, rfl, own, hb⟩
  obtain ⟨a3, c3, rfl⟩ := own.form
  have RY := Lib.hid own.rd
  have HALL := Lib.hid (fun h => arr_fn (x := x) (ns := ns) (b := b) h)
  have HBAD := Lib.hid (fun h => arr_bad (x := x) (ns := ns) (b := b) h)
  obtain ⟨Y, hY⟩ : ∃ Y, Y = atV x ns b := ⟨_, rfl⟩
  obtain ⟨M, hM⟩ : ∃ M, M = atM x ns b := ⟨_, rfl⟩
  obtain ⟨D, hD⟩ : ∃ D, D = atD x ns b := ⟨_, rfl⟩
  have hyl : Y.tones.length ≤ 1048576 := by rw [hY]; exact at_len x ns b
  rw [← hY] at RY HALL HBAD ⊢
  rw [← hM, ← hD] at HALL ⊢
  clear hY hM hD
  have HB := Lib.hid (HB.out.trans (hb.mono HB.out.size))
  have BX := Lib.hid (BX.out.mono hb)
  have RX := Lib.hid (RX.out.mono hb)
  have RN := Lib.hid (RN.out.mono hb)
  clear ua ub ul
  clear own hb
  obtain ⟨q, hq⟩ : ∃ q, q = w2.heap.size := ⟨_, rfl⟩
  have BY := Lib.hid (Box.alloc w2 [.string Y.name, .slice a3 Y.tones.length c3] 29 q hq.symm)
  have hba := belowA w2 (.cells #[.string Y.name, .slice a3 Y.tones.length c3] 29)
  have RY := Lib.hid (RY.out.mono hba)
  have HB := Lib.hid (HB.out.trans (hba.mono HB.out.size))
  have BX := Lib.hid (BX.out.mono hba)
  have RX := Lib.hid (RX.out.mono hba)
  have RN := Lib.hid (RN.out.mono hba)
  clear hba
  have ua := BX.out.at' 0 _ rfl
  have ub := BX.out.at' 1 _ rfl
  have ul := BX.out.lt
  go_wp2_with fail
  rw [← hq]
  clear hq
  go_wp2_with fail
  refine (implArrangeCost_any _ x _ ns b _ RX.out OX.out zx RN.out ON.out zn IB.out).mono ?_
  obtain ⟨CO, hCO⟩ : ∃ C, C = acoV x ns b := ⟨_, rfl⟩
  obtain ⟨AC, hAC⟩ : ∃ C, C = askC x ns b := ⟨_, rfl⟩
  rw [← hCO] at HALL HBAD ⊢
  rw [← hAC] at HALL HBAD ⊢
  have HAC := Lib.hid hAC
  clear hCO hAC
  rintro e w3 ⟨rfl, hb⟩
  have HB := Lib.hid (HB.out.trans (hb.mono HB.out.size))
  have BX := Lib.hid (BX.out.mono hb)
  have RX := Lib.hid (RX.out.mono hb)
  have BY := Lib.hid (BY.out.mono hb)
  have RY := Lib.hid (RY.out.mono hb)
  have RN := Lib.hid (RN.out.mono hb)
  clear ua ub ul
  clear hb
  have ua := BX.out.at' 0 _ rfl
  have ub := BX.out.at' 1 _ rfl
  have ul := BX.out.lt
  have sa := BY.out.at' 0 _ rfl
  have sb := BY.out.at' 1 _ rfl
  have sl := BY.out.lt
  by_cases hc : AC = 0
  rotate_left
  · obtain ⟨e1, e2⟩ := HBAD.out hc
    have d3 : (AC != 0) = true := by simpa using hc
    have d4 : ((Y.tones.length : Int) == 0) = true := beq_iff_eq.2 (by omega)
    have d5 : (CO == 0) = true := by simpa using e1
    have d6 : Y.tones.length = 0 := e2
    clear e1 hc HALL HBAD
    go_wp2
    go_ret
    exact ⟨rfl, HB.out⟩
  obtain ⟨f1, f2, f3, f4, f5, f6, f7, f8, f9⟩ := HALL.out hc
  have OY := Lib.hid (show Y.ok from by
    obtain ⟨hn, hl, ht⟩ := validTunB_iff.1 f1
    refine ⟨by have := hn.len; unfold maxLen; omega, fun l hl' => ?_⟩
    obtain ⟨k, hk, rfl⟩ := List.getElem_of_mem hl'
    obtain ⟨a1, a2, a3⟩ := (TonOk.iff' _).1 (ht k hk hk).1
    unfold noteOk at a1
    exact ⟨i64_smB (by omega) (by omega), i64_smB (by omega) (by omega), i64_smB (by omega) (by omega)⟩)
  have F1 := Lib.hid f1; have F3 := Lib.hid f3; have F4 := Lib.hid f4; have F5 := Lib.hid f5; have F7 := Lib.hid f7
  have w10 : IntKind.i64.wrap (10 * D) = 10 * D := IntWalk.i64_in _ (by omega)
  have w11 : IntKind.i64.wrap (M + 10 * D) = M + 10 * D := IntWalk.i64_in _ (by omega)
  have dco : (CO != M + 10 * D) = false := by rw [f2]; simp
  have w12 : IntKind.i64.wrap ((Y.tones.length : Int) + D) = (Y.tones.length : Int) + D := IntWalk.i64_in _ (by omega)
  have dle : ((Y.tones.length : Int) + D != (x.tones.length : Int)) = false := by rw [f5]; simp
  have dch : ¬ (Y.tones.length : Int) < M := by omega
  have HAC0 := Lib.hid (show askC x ns b = 0 by rw [← HAC.out]; exact hc)
  subst hc
  clear f1 f2 f3 f4 f5 f6 f7 f8 f9 HALL HBAD HAC
  go_wp2_with fail
  refine (implMissingTones_any _ Y _ ns 0 _ RY.out OY.out hyl RN.out ON.out zn (i64_smB (by omega) (by omega))).mono ?_
  rw [F3.out, F4.out]
  rintro e w4 ⟨rfl, hb⟩
  have HB := Lib.hid (HB.out.trans (hb.mono HB.out.size))
  have BX := Lib.hid (BX.out.mono hb)
  have RX := Lib.hid (RX.out.mono hb)
  have BY := Lib.hid (BY.out.mono hb)
  have RY := Lib.hid (RY.out.mono hb)
  have RN := Lib.hid (RN.out.mono hb)
  clear ua ub ul
  clear sa sb sl
  clear hb
  have ua := BX.out.at' 0 _ rfl
  have ub := BX.out.at' 1 _ rfl
  have ul := BX.out.lt
  go_wp2_with fail
  refine (implMissingTones_any _ x _ ns b _ RX.out OX.out zx RN.out ON.out zn IB.out).mono ?_
  rw [HAC0.out]
  obtain ⟨ML, hML⟩ : ∃ C, C = mtV x ns b := ⟨_, rfl⟩
  rw [← hML] at F7 ⊢
  clear hML
  rintro e w5 ⟨rfl, hb⟩
  have HB := Lib.hid (HB.out.trans (hb.mono HB.out.size))
  have BX := Lib.hid (BX.out.mono hb)
  have RX := Lib.hid (RX.out.mono hb)
  have BY := Lib.hid (BY.out.mono hb)
  have RY := Lib.hid (RY.out.mono hb)
  clear ua ub ul
  clear hb RN
  have sa := BY.out.at' 0 _ rfl
  have sb := BY.out.at' 1 _ rfl
  have sl := BY.out.lt
  go_wp2_with fail
  refine (specValidTune_any _ Y _ RY.out OY.out hyl).mono ?_
  rw [F1.out]
  rintro e w6 ⟨rfl, hb⟩
  have HB := Lib.hid (HB.out.trans (hb.mono HB.out.size))
  have BX := Lib.hid (BX.out.mono hb)
  have RX := Lib.hid (RX.out.mono hb)
  have BY := Lib.hid (BY.out.mono hb)
  have RY := Lib.hid (RY.out.mono hb)
  clear sa sb sl
  clear hb
  have ua := BX.out.at' 0 _ rfl
  have ub := BX.out.at' 1 _ rfl
  have ul := BX.out.lt
  have sa := BY.out.at' 0 _ rfl
  have sb := BY.out.at' 1 _ rfl
  have sl := BY.out.lt
  have e1 : (ML == 0) = true ∧ (CO == 0) = true ∨ (ML == 0) = false ∧ (CO == 0) = false := by
    by_cases h : ML = 0
    · exact .inl ⟨by simpa using h, by simpa using F7.out.1 h⟩
    · exact .inr ⟨by simpa using h, by simpa using fun e => h (F7.out.2 e)⟩
  rcases e1 with ⟨e1, e2⟩ | ⟨e1, e2⟩
  · skip
    go_wp2_with fail
    refine (DrawPlaceNote_any _ _ x1 (HY.out.mono HB.out) o1).mono ?_
    rintro e w7 ⟨vs, st, nt, rfl, own, sms, hnt, hb⟩
    obtain ⟨a5, c5, rfl⟩ := own.form
    have RS := Lib.hid own.rd
    have OS := Lib.hid (smS_ok sms)
    have SS := Lib.hid sms
    have zs : st.length ≤ 1048576 := by have := sms.2; omega
    have HB := Lib.hid (HB.out.trans (hb.mono HB.out.size))
    clear own sms hb dco dle dch w10 w11 w12 e1 e2 F1 F3 F4 F5 F7 BX BY RX RY
    clear ua ub ul
    clear sa sb sl
    go_wp2_with fail
    refine (implPlaceNote_any _ st nt _ RS.out OS.out zs (i64_smB (by omega) (by omega))).mono ?_
    have HPF := Lib.hid (fun h => place_fn (ns := st) (n := nt) h)
    have HPB := Lib.hid (fun h => place_bad (ns := st) (n := nt) h)
    obtain ⟨P, hP⟩ : ∃ P, P = pnV st nt := ⟨_, rfl⟩
    obtain ⟨PC, hPC⟩ : ∃ P, P = pnC st nt := ⟨_, rfl⟩
    rw [← hP] at HPF HPB ⊢
    rw [← hPC] at HPF HPB ⊢
    clear hP hPC
    rintro e w8 ⟨rfl, hb⟩
    have HB := Lib.hid (HB.out.trans (hb.mono HB.out.size))
    have RS := Lib.hid (RS.out.mono hb)
    clear hb
    by_cases hpc : PC = 0
    rotate_left
    · have e3 : (PC != 0) = true := by simpa using hpc
      have e4 : (P == 0) = true := by simpa using HPB.out hpc
      clear hpc HPF HPB
      go_wp2
      go_ret
      exact ⟨rfl, HB.out⟩
    obtain ⟨g1, g2, g3, g4, g5, g6⟩ := HPF.out hpc
    have G1 := Lib.hid g1; have G6 := Lib.hid g6
    have hs127 := set_in g4
    have H127 := Lib.hid hs127
    unfold pnIn at g3
    subst hpc
    have wp : IntKind.i64.wrap (P - nt) = P - nt := IntWalk.i64_in _ (by omega)
    have wr12 : IntKind.i64.wrap ((P - nt).tmod 12) = (P - nt).tmod 12 := by rw [g5]; exact IntWalk.i64_in _ (by omega)
    have d12 : ((P - nt).tmod 12 == 0) = true := by rw [g5]; rfl
    clear g1 g4 g6 hs127 HPF HPB
    go_wp2_with fail
    go_loopw [22, 23] (fun f i wr => ∃ (k : Nat) (bf : Bool), k ≤ st.length ∧ i = .int .i64 (k : Int) ∧ f = .bool bf ∧ bf = decide (P ∈ st.take k) ∧ Below w8.heap.size w8 wr) (fun _ i _ => st.length - (intOf i).toNat)
    case atStart => exact ⟨0, false, Nat.zero_le _, by go_num, rfl, by simp, Below.refl _ _⟩
    case round =>
      obtain ⟨k, bf, hk, rfl, rfl, hbf, hbr⟩ := hrel
      have HBF := Lib.hid hbf
      have HBR := Lib.hid hbr
      clear hbf
      by_cases hlt : k < st.length
      · obtain ⟨b1, o1, rfl, q1⟩ := Sl.cells ((show Ints w8 _ st from RS.out).mono hbr) (by simp; omega)
        have z1 : wr.cell? ⟨b1, o1 + k, none⟩ = some (.int .i64 st[k]) := q1 k _ (by simp [hlt])
        have hx := H127.out _ (List.getElem_mem hlt)
        have HT := Lib.hid (List.take_succ_eq_append_getElem hlt)
        have ws : IntKind.i64.wrap (st[k] - nt) = st[k] - nt := IntWalk.i64_in _ (by omega)
        obtain ⟨bn, hbn⟩ : ∃ bn : Bool, bn = decide (P ∈ st.take (k + 1)) := ⟨_, rfl⟩
        have HBN := Lib.hid hbn
        have hor : (bf = true ∧ bn = true) ∨ (bf = false ∧ (st[k] == P) = bn) := by
          rw [hbn, HBF.out]
          have ht := HT.out
          by_cases h : P ∈ st.take k
          · left; exact ⟨decide_eq_true h, decide_eq_true (by rw [ht]; exact List.mem_append.2 (.inl h))⟩
          · right
            refine ⟨decide_eq_false h, ?_⟩
            by_cases h2 : st[k] = P
            · rw [decide_eq_true (show P ∈ st.take (k + 1) by rw [ht]; exact List.mem_append.2 (.inr (by rw [h2]; simp)))]
              simpa using h2
            · rw [decide_eq_false (show ¬ P ∈ st.take (k + 1) by
                rw [ht]; intro m
                rcases List.mem_append.1 m with m | m
                · exact h m
                · exact h2 (List.mem_singleton.1 m).symm)]
              simpa using h2
        have HD := Lib.hid (fun h => G6.out _ (List.getElem_mem hlt) h)
        have hno : ∀ h : (st[k] - nt).tmod 12 = 0, ¬ absI (st[k] - nt) < absI (P - nt) := fun h => by have := HD.out h; omega
        have hwt : IntKind.i64.wrap ((st[k] - nt).tmod 12) = (st[k] - nt).tmod 12 := by
          refine IntWalk.i64_in _ ?_
          have h1 := Int.tmod_lt_of_pos (st[k] - nt) (show (0 : Int) < 12 by omega)
          have h2 : -12 < (st[k] - nt).tmod 12 := by
            have := Int.tmod_lt_of_pos (-(st[k] - nt)) (show (0 : Int) < 12 by omega)
            rw [Int.neg_tmod] at this
            omega
          omega
        clear q1 hbr hbn HD
        rcases hor with ⟨rfl, rfl⟩ | ⟨rfl, h2⟩
        · skip
          by_cases ht : (st[k] - nt).tmod 12 = 0
          · have dt : ((st[k] - nt).tmod 12 == 0) = true := by simpa using ht
            have hn := hno ht
            clear hno ht
            go_wp2_with fail
            refine (b10Abs_any (st[k] - nt) _ (by omega) (by omega)).mono ?_
            rintro e w9 ⟨rfl, rfl⟩
            go_wp2_with fail
            refine (b10Abs_any (P - nt) _ (by omega) (by omega)).mono ?_
            rintro e w9 ⟨rfl, rfl⟩
            go_wp2
            go_roundw
            case rel => exact ⟨k + 1, true, by omega, by go_num, rfl, HBN.out, HBR.out⟩
            case measure => simp [intOf] <;> omega
          · have dt : ((st[k] - nt).tmod 12 == 0) = false := by simpa using ht
            clear hno ht
            go_wp2
            go_roundw
            case rel => exact ⟨k + 1, true, by omega, by go_num, rfl, HBN.out, HBR.out⟩
            case measure => simp [intOf] <;> omega
        · skip
          by_cases ht : (st[k] - nt).tmod 12 = 0
          · have dt : ((st[k] - nt).tmod 12 == 0) = true := by simpa using ht
            have hn := hno ht
            clear hno ht
            go_wp2_with fail
            refine (b10Abs_any (st[k] - nt) _ (by omega) (by omega)).mono ?_
            rintro e w9 ⟨rfl, rfl⟩
            go_wp2_with fail
            refine (b10Abs_any (P - nt) _ (by omega) (by omega)).mono ?_
            rintro e w9 ⟨rfl, rfl⟩
            go_wp2
            go_roundw
            case rel => exact ⟨k + 1, bn, by omega, by go_num, rfl, HBN.out, HBR.out⟩
            case measure => simp [intOf] <;> omega
          · have dt : ((st[k] - nt).tmod 12 == 0) = false := by simpa using ht
            clear hno ht
            go_wp2
            go_roundw
            case rel => exact ⟨k + 1, bn, by omega, by go_num, rfl, HBN.out, HBR.out⟩
            case measure => simp [intOf] <;> omega
      · obtain rfl : k = st.length := by omega
        obtain rfl : bf = true := by
          rw [HBF.out]
          apply decide_eq_true
          rw [List.take_length]
          exact G1.out
        have HF := Lib.hid (HB.out.trans (HBR.out.mono HB.out.size))
        clear hbr
        go_wp2
        go_ret
        exact ⟨rfl, HF.out⟩
  · skip
    go_wp2_with fail
    refine (DrawPlaceNote_any _ _ x1 (HY.out.mono HB.out) o1).mono ?_
    rintro e w7 ⟨vs, st, nt, rfl, own, sms, hnt, hb⟩
    obtain ⟨a5, c5, rfl⟩ := own.form
    have RS := Lib.hid own.rd
    have OS := Lib.hid (smS_ok sms)
    have SS := Lib.hid sms
    have zs : st.length ≤ 1048576 := by have := sms.2; omega
    have HB := Lib.hid (HB.out.trans (hb.mono HB.out.size))
    clear own sms hb dco dle dch w10 w11 w12 e1 e2 F1 F3 F4 F5 F7 BX BY RX RY
    clear ua ub ul
    clear sa sb sl
    go_wp2_with fail
    refine (implPlaceNote_any _ st nt _ RS.out OS.out zs (i64_smB (by omega) (by omega))).mono ?_
    have HPF := Lib.hid (fun h => place_fn (ns := st) (n := nt) h)
    have HPB := Lib.hid (fun h => place_bad (ns := st) (n := nt) h)
    obtain ⟨P, hP⟩ : ∃ P, P = pnV st nt := ⟨_, rfl⟩
    obtain ⟨PC, hPC⟩ : ∃ P, P = pnC st nt := ⟨_, rfl⟩
    rw [← hP] at HPF HPB ⊢
    rw [← hPC] at HPF HPB ⊢
    clear hP hPC
    rintro e w8 ⟨rfl, hb⟩
    have HB := Lib.hid (HB.out.trans (hb.mono HB.out.size))
    have RS := Lib.hid (RS.out.mono hb)
    clear hb
    by_cases hpc : PC = 0
    rotate_left
    · have e3 : (PC != 0) = true := by simpa using hpc
      have e4 : (P == 0) = true := by simpa using HPB.out hpc
      clear hpc HPF HPB
      go_wp2
      go_ret
      exact ⟨rfl, HB.out⟩
    obtain ⟨g1, g2, g3, g4, g5, g6⟩ := HPF.out hpc
    have G1 := Lib.hid g1; have G6 := Lib.hid g6
    have hs127 := set_in g4
    have H127 := Lib.hid hs127
    unfold pnIn at g3
    subst hpc
    have wp : IntKind.i64.wrap (P - nt) = P - nt := IntWalk.i64_in _ (by omega)
    have wr12 : IntKind.i64.wrap ((P - nt).tmod 12) = (P - nt).tmod 12 := by rw [g5]; exact IntWalk.i64_in _ (by omega)
    have d12 : ((P - nt).tmod 12 == 0) = true := by rw [g5]; rfl
    clear g1 g4 g6 hs127 HPF HPB
    go_wp2_with fail
    go_loopw [22, 23] (fun f i wr => ∃ (k : Nat) (bf : Bool), k ≤ st.length ∧ i = .int .i64 (k : Int) ∧ f = .bool bf ∧ bf = decide (P ∈ st.take k) ∧ Below w8.heap.size w8 wr) (fun _ i _ => st.length - (intOf i).toNat)
    case atStart => exact ⟨0, false, Nat.zero_le _, by go_num, rfl, by simp, Below.refl _ _⟩
    case round =>
      obtain ⟨k, bf, hk, rfl, rfl, hbf, hbr⟩ := hrel
      have HBF := Lib.hid hbf
      have HBR := Lib.hid hbr
      clear hbf
      by_cases hlt : k < st.length
      · obtain ⟨b1, o1, rfl, q1⟩ := Sl.cells ((show Ints w8 _ st from RS.out).mono hbr) (by simp; omega)
        have z1 : wr.cell? ⟨b1, o1 + k, none⟩ = some (.int .i64 st[k]) := q1 k _ (by simp [hlt])
        have hx := H127.out _ (List.getElem_mem hlt)
        have HT := Lib.hid (List.take_succ_eq_append_getElem hlt)
        have ws : IntKind.i64.wrap (st[k] - nt) = st[k] - nt := IntWalk.i64_in _ (by omega)
        obtain ⟨bn, hbn⟩ : ∃ bn : Bool, bn = decide (P ∈ st.take (k + 1)) := ⟨_, rfl⟩
        have HBN := Lib.hid hbn
        have hor : (bf = true ∧ bn = true) ∨ (bf = false ∧ (st[k] == P) = bn) := by
          rw [hbn, HBF.out]
          have ht := HT.out
          by_cases h : P ∈ st.take k
          · left; exact ⟨decide_eq_true h, decide_eq_true (by rw [ht]; exact List.mem_append.2 (.inl h))⟩
          · right
            refine ⟨decide_eq_false h, ?_⟩
            by_cases h2 : st[k] = P
            · rw [decide_eq_true (show P ∈ st.take (k + 1) by rw [ht]; exact List.mem_append.2 (.inr (by rw [h2]; simp)))]
              simpa using h2
            · rw [decide_eq_false (show ¬ P ∈ st.take (k + 1) by
                rw [ht]; intro m
                rcases List.mem_append.1 m with m | m
                · exact h m
                · exact h2 (List.mem_singleton.1 m).symm)]
              simpa using h2
        have HD := Lib.hid (fun h => G6.out _ (List.getElem_mem hlt) h)
        have hno : ∀ h : (st[k] - nt).tmod 12 = 0, ¬ absI (st[k] - nt) < absI (P - nt) := fun h => by have := HD.out h; omega
        have hwt : IntKind.i64.wrap ((st[k] - nt).tmod 12) = (st[k] - nt).tmod 12 := by
          refine IntWalk.i64_in _ ?_
          have h1 := Int.tmod_lt_of_pos (st[k] - nt) (show (0 : Int) < 12 by omega)
          have h2 : -12 < (st[k] - nt).tmod 12 := by
            have := Int.tmod_lt_of_pos (-(st[k] - nt)) (show (0 : Int) < 12 by omega)
            rw [Int.neg_tmod] at this
            omega
          omega
        clear q1 hbr hbn HD
        rcases hor with ⟨rfl, rfl⟩ | ⟨rfl, h2⟩
        · skip
          by_cases ht : (st[k] - nt).tmod 12 = 0
          · have dt : ((st[k] - nt).tmod 12 == 0) = true := by simpa using ht
            have hn := hno ht
            clear hno ht
            go_wp2_with fail
            refine (b10Abs_any (st[k] - nt) _ (by omega) (by omega)).mono ?_
            rintro e w9 ⟨rfl, rfl⟩
            go_wp2_with fail
            refine (b10Abs_any (P - nt) _ (by omega) (by omega)).mono ?_
            rintro e w9 ⟨rfl, rfl⟩
            go_wp2
            go_roundw
            case rel => exact ⟨k + 1, true, by omega, by go_num, rfl, HBN.out, HBR.out⟩
            case measure => simp [intOf] <;> omega
          · have dt : ((st[k] - nt).tmod 12 == 0) = false := by simpa using ht
            clear hno ht
            go_wp2
            go_roundw
            case rel => exact ⟨k + 1, true, by omega, by go_num, rfl, HBN.out, HBR.out⟩
            case measure => simp [intOf] <;> omega
        · skip
          by_cases ht : (st[k] - nt).tmod 12 = 0
          · have dt : ((st[k] - nt).tmod 12 == 0) = true := by simpa using ht
            have hn := hno ht
            clear hno ht
            go_wp2_with fail
            refine (b10Abs_any (st[k] - nt) _ (by omega) (by omega)).mono ?_
            rintro e w9 ⟨rfl, rfl⟩
            go_wp2_with fail
            refine (b10Abs_any (P - nt) _ (by omega) (by omega)).mono ?_
            rintro e w9 ⟨rfl, rfl⟩
            go_wp2
            go_roundw
            case rel => exact ⟨k + 1, bn, by omega, by go_num, rfl, HBN.out, HBR.out⟩
            case measure => simp [intOf] <;> omega
          · have dt : ((st[k] - nt).tmod 12 == 0) = false := by simpa using ht
            clear hno ht
            go_wp2
            go_roundw
            case rel => exact ⟨k + 1, bn, by omega, by go_num, rfl, HBN.out, HBR.out⟩
            case measure => simp [intOf] <;> omega
      · obtain rfl : k = st.length := by omega
        obtain rfl : bf = true := by
          rw [HBF.out]
          apply decide_eq_true
          rw [List.take_length]
          exact G1.out
        have HF := Lib.hid (HB.out.trans (HBR.out.mono HB.out.size))
        clear hbr
        go_wp2
        go_ret
        exact ⟨rfl, HF.out⟩

end Go.Proofs.Ytemmnjokojgjaaa
