/- Contracts of RunsOf of both packages. -/
import Derived.Test.YtadnejajbdipoaaRowss
import Derived.Test.YtadnejajbdipoaaRun
set_option linter.unusedSimpArgs false
set_option linter.unnecessarySimpa false
set_option linter.unusedVariables false
set_option maxRecDepth 100000
namespace Go.Proofs.Ytadnejajbdipoaa
open Go.RowKit

/-- Whether a row begins or ends with a run. -/
noncomputable def runAt (n : Nat) (x : List Int) : Bool := decide (n ≤ x.length) && (runB (x.take n) || runB (x.drop (x.length - n)))
noncomputable def runCnt (n : Nat) (xs : List (List Int)) : Nat → Int
  | 0 => 0
  | k + 1 => if runAt n (xs.getD k []) = true then runCnt n xs k + 1 else runCnt n xs k
def roIn (n : Int) : Prop := 2 ≤ n ∧ n ≤ 12
instance (n : Int) : Decidable (roIn n) := by unfold roIn; infer_instance
noncomputable def roV (xs : List (List Int)) (n : Int) : Int := if rowsB xs = true then if roIn n then runCnt n.toNat xs xs.length else 0 else 0
noncomputable def roC (xs : List (List Int)) (n : Int) : Int := if rowsB xs = true then if roIn n then 0 else 2 else 1
theorem ro_no {xs : List (List Int)} (n : Int) (h : rowsB xs = false) : roV xs n = 0 ∧ roC xs n = 1 := by unfold roV roC; rw [h]; exact ⟨rfl, rfl⟩
theorem ro_bad {xs : List (List Int)} {n : Int} (h : rowsB xs = true) (g : ¬ roIn n) : roV xs n = 0 ∧ roC xs n = 2 := by unfold roV roC; rw [h]; exact ⟨if_neg g, if_neg g⟩
theorem ro_yes {xs : List (List Int)} {n : Int} (h : rowsB xs = true) (g : roIn n) : roV xs n = runCnt n.toNat xs xs.length ∧ roC xs n = 0 := by unfold roV roC; rw [h]; exact ⟨if_pos g, if_pos g⟩
theorem cnt_bd (n : Nat) (xs : List (List Int)) : ∀ k : Nat, 0 ≤ runCnt n xs k ∧ runCnt n xs k ≤ (k : Int)
  | 0 => ⟨Int.le_refl _, Int.le_refl _⟩
  | k + 1 => by
    have := cnt_bd n xs k
    unfold runCnt; split <;> omega
theorem cnt_yes {n : Nat} {xs : List (List Int)} {k : Nat} (hk : k < xs.length) (h : runAt n xs[k] = true) : runCnt n xs (k + 1) = runCnt n xs k + 1 := by
  conv => lhs; unfold runCnt
  rw [show xs.getD k [] = xs[k] by simp [hk], if_pos h]
theorem cnt_no {n : Nat} {xs : List (List Int)} {k : Nat} (hk : k < xs.length) (h : runAt n xs[k] = false) : runCnt n xs (k + 1) = runCnt n xs k := by
  conv => lhs; unfold runCnt
  rw [show xs.getD k [] = xs[k] by simp [hk], if_neg (by rw [h]; exact Bool.false_ne_true)]
theorem row_bd {x : List Int} (h : RowOk x) : ∀ n ∈ x, 0 ≤ n ∧ n ≤ 1000 := fun n hn => by
  have h1 := h.mem n hn
  have h2 := h.stage
  unfold stage at h2
  omega
theorem ints_drop {w : World} {b off ca n : Nat} {xs : List Int} (h : Ints w (.slice (some ⟨b, off, none⟩) n ca) xs) (hn : n = xs.length) {k : Nat} (hk : k ≤ n) : Ints w (.slice (some ⟨b, off + k, none⟩) (n - k) (ca - k)) (xs.drop k) := by
  subst hn
  obtain ⟨a', c', e, h1, h2, h3⟩ := h
  simp only [Value.slice.injEq] at e
  obtain ⟨rfl, _, rfl⟩ := e
  refine ⟨_, _, by rw [List.length_drop], by rw [List.length_drop]; omega, by omega, fun j u hu => ⟨b, off + k, rfl, ?_⟩⟩
  rw [List.map_drop, List.getElem?_drop] at hu
  obtain ⟨b', o', e, hc⟩ := h3 _ u hu
  cases e
  rw [Nat.add_assoc]; exact hc
theorem ints_take2 {w : World} {a : Option Addr} {ca n : Nat} {xs : List Int} (h : Ints w (.slice a n ca) xs) (hn : n = xs.length) {k : Nat} (hk : k ≤ n) : Ints w (.slice a k ca) (xs.take k) := by
  subst hn; exact ints_take h hk

set_option maxHeartbeats 2000000 in
theorem specRunsOf_any (v : Value) (xs : List (List Int)) (n : Int) (w : World) (h : RdIntss w v xs) (ok : okIntss xs) (hs : szIntss xs ≤ 1048576) (_ : I64 n) :
    Calls Try.prog 20 #[v, .int .i64 n] w fun e w' => e = .returned (.tuple #[.int .i64 (roV xs n), .int .i64 (roC xs n)]) ∧ Below w.heap.size w w' := by
  obtain ⟨a, ca, rfl, _, hm⟩ := h.form'
  have hsl := szIntss_len xs
  unfold maxLen at hm
  cases g : rowsB xs
  · obtain ⟨e1, e2⟩ := ro_no n g
    rw [e1, e2]
    have G := Lib.hid g; clear g e1 e2
    go_enter Try.func20, Try.ntmps20
    go_wp2_with fail
    refine (l27Rows_any _ xs _ h).mono ?_
    rw [G.out]
    rintro e w1 ⟨rfl, hb1⟩
    go_wp2
    go_ret2
    exact ⟨rfl, hb1⟩
  by_cases gn : roIn n
  rotate_left
  · obtain ⟨e1, e2⟩ := ro_bad g gn
    rw [e1, e2]
    have G := Lib.hid g; have GN := Lib.hid (noB gn); clear g gn e1 e2
    go_enter Try.func20, Try.ntmps20
    go_wp2_with fail
    refine (l27Rows_any _ xs _ h).mono ?_
    rw [G.out]
    rintro e w1 ⟨rfl, hb1⟩
    go_wp2_with fail
    refine (l00In_any false _ _ _ _ GN.out).mono ?_
    rintro e w2 ⟨rfl, rfl⟩
    go_wp2
    go_ret2
    exact ⟨rfl, hb1⟩
  · obtain ⟨e1, e2⟩ := ro_yes g gn
    have R := Lib.hid (rows_ok g)
    have E1 := Lib.hid e1; have E2 := Lib.hid e2; have G := Lib.hid g; have GN := Lib.hid (yesB gn)
    obtain ⟨m, hm2⟩ : ∃ m : Nat, m = n.toNat := ⟨_, rfl⟩
    unfold roIn at gn
    have hnm : n = (m : Int) := by omega
    rw [← hm2] at E1
    have m2 : 2 ≤ m := by omega
    have m12 : m ≤ 12 := by omega
    subst hnm
    clear g e1 e2 gn hm2
    go_enter Try.func20, Try.ntmps20
    go_wp2_with fail
    refine (l27Rows_any _ xs _ h).mono ?_
    rw [G.out]
    rintro e w1 ⟨rfl, hb1⟩
    go_wp2_with fail
    refine (l00In_any true _ _ _ _ GN.out).mono ?_
    rintro e w2 ⟨rfl, rfl⟩
    go_wp2_with fail
    go_loopw [6, 7, 8] (fun c i _ wr => ∃ k : Nat, k ≤ xs.length ∧ i = .int .i64 (k : Int) ∧ c = .int .i64 (runCnt m xs k) ∧ Below w.heap.size w wr) (fun _ i _ _ => xs.length - (intOf i).toNat)
    case atStart => exact ⟨0, Nat.zero_le _, by go_num, rfl, hb1⟩
    case round =>
      obtain ⟨k, hk, rfl, rfl, hb⟩ := hrel
      have hz := hb.size
      by_cases hlt : k < xs.length
      · obtain ⟨b1, o1, lv, c1, rfl, hB, u0, uv⟩ := (h.mono hb).at hlt
        have hrow := R.out.2 _ (List.getElem_mem hlt)
        have hst := hrow.stage
        unfold stage at hst
        obtain ⟨cb0, cb1⟩ := cnt_bd m xs k
        have BD := Lib.hid (row_bd hrow)
        have w1' : IntKind.i64.wrap (runCnt m xs k + 1) = runCnt m xs k + 1 := IntWalk.i64_in _ (by omega)
        by_cases gl : xs[k].length < m
        · have d1 : decide ((xs[k].length : Int) < (m : Int)) = true := by simp; omega
          have HX := Lib.hid (cnt_no (n := m) hlt (by unfold runAt; rw [decide_eq_false (by omega)]; rfl))
          clear hrow
          go_wp2
          go_roundw
          case rel => exact ⟨k + 1, by omega, by go_num, by rw [HX.out], hb⟩
          case measure => simp [intOf] <;> omega
        · have d1 : decide ((xs[k].length : Int) < (m : Int)) = false := by simp; omega
          obtain ⟨hlc, hlm⟩ : xs[k].length ≤ c1 ∧ c1 ≤ maxLen := by
            obtain ⟨a', c', e, h1, h2, _⟩ := id uv
            simp only [Value.slice.injEq] at e
            obtain ⟨_, _, rfl⟩ := e
            exact ⟨h1, h2⟩
          unfold maxLen at hlm
          obtain ⟨bb, oo, rfl, _⟩ := Sl.cells uv (by simp <;> omega)
          have HTK := Lib.hid (ints_take2 uv rfl (k := m) (by omega))
          have HDR := Lib.hid (ints_drop uv rfl (k := xs[k].length - m) (by omega))
          have HRA := Lib.hid (show runAt m xs[k] = (runB (xs[k].take m) || runB (xs[k].drop (xs[k].length - m))) by unfold runAt; rw [decide_eq_true (by omega)]; rfl)
          have hBt := Lib.hid (show ∀ x ∈ xs[k].take m, 0 ≤ x ∧ x ≤ 1000 from fun x hx => BD.out x (List.mem_of_mem_take hx))
          have hBd := Lib.hid (show ∀ x ∈ xs[k].drop (xs[k].length - m), 0 ≤ x ∧ x ≤ 1000 from fun x hx => BD.out x (List.mem_of_mem_drop hx))
          have HDR2 := HDR.out
          rw [show xs[k].length - (xs[k].length - m) = m by omega] at HDR2
          have HDR3 := Lib.hid HDR2; clear HDR2 HDR
          have q1 : IntKind.i64.wrap ((xs[k].length : Int) - (m : Int)) = (xs[k].length : Int) - (m : Int) := IntWalk.i64_in _ (by omega)
          have q2 : ((xs[k].length : Int) - (m : Int)).toNat = xs[k].length - m := by omega
          have q3 : (0 : Int) ≤ (xs[k].length : Int) - (m : Int) := by omega
          have q4 : (xs[k].length : Int) - (m : Int) ≤ (xs[k].length : Int) := by omega
          have q5 : ¬ xs[k].length - m = c1 := by omega
          have q6 : (m : Int) ≤ (c1 : Int) := by omega
          have q7 : (0 : Int) ≤ (m : Int) := by omega
          have q8 : xs[k].length - (xs[k].length - m) = m := by omega
          have q9 : ¬ (c1 - (xs[k].length - m) = 0) := by omega
          clear hrow gl
          cases g1 : runB (xs[k].take m)
          · cases g2 : runB (xs[k].drop (xs[k].length - m))
            · have HX := Lib.hid (cnt_no (n := m) hlt (by rw [HRA.out, g1, g2]; rfl))
              have G1 := Lib.hid g1; have G2 := Lib.hid g2; clear g1 g2
              go_wp2_with fail
              refine (l27Run_any _ (xs[k].take m) _ HTK.out hBt.out).mono ?_
              rw [G1.out]
              rintro e w4 ⟨rfl, hq1⟩
              have u0 := (hq1.cell _).trans u0
              go_wp2_with fail
              refine (l27Run_any _ (xs[k].drop (xs[k].length - m)) _ (HDR3.out.q hq1) hBd.out).mono ?_
              rw [G2.out]
              rintro e w5 ⟨rfl, hq2⟩
              go_wp2
              go_roundw
              case rel => exact ⟨k + 1, by omega, by go_num, by rw [HX.out], hb.trans (((hq1.below _).trans (hq2.below _)).mono hz)⟩
              case measure => simp [intOf] <;> omega
            · have HX := Lib.hid (cnt_yes (n := m) hlt (by rw [HRA.out, g1, g2]; rfl))
              have G1 := Lib.hid g1; have G2 := Lib.hid g2; clear g1 g2
              go_wp2_with fail
              refine (l27Run_any _ (xs[k].take m) _ HTK.out hBt.out).mono ?_
              rw [G1.out]
              rintro e w4 ⟨rfl, hq1⟩
              have u0 := (hq1.cell _).trans u0
              go_wp2_with fail
              refine (l27Run_any _ (xs[k].drop (xs[k].length - m)) _ (HDR3.out.q hq1) hBd.out).mono ?_
              rw [G2.out]
              rintro e w5 ⟨rfl, hq2⟩
              go_wp2
              go_roundw
              case rel => exact ⟨k + 1, by omega, by go_num, by rw [HX.out], hb.trans (((hq1.below _).trans (hq2.below _)).mono hz)⟩
              case measure => simp [intOf] <;> omega
          · have HX := Lib.hid (cnt_yes (n := m) hlt (by rw [HRA.out, g1]; rfl))
            have G1 := Lib.hid g1; clear g1
            go_wp2_with fail
            refine (l27Run_any _ (xs[k].take m) _ HTK.out hBt.out).mono ?_
            rw [G1.out]
            rintro e w4 ⟨rfl, hq1⟩
            have u0 := (hq1.cell _).trans u0
            go_wp2
            go_roundw
            case rel => exact ⟨k + 1, by omega, by go_num, by rw [HX.out], hb.trans ((hq1.below _).mono hz)⟩
            case measure => simp [intOf] <;> omega
      · obtain rfl : k = xs.length := by omega
        go_wp2
        go_ret2
        exact ⟨by rw [E1.out, E2.out]; rfl, hb⟩

set_option maxHeartbeats 2000000 in
theorem implRunsOf_any (v : Value) (xs : List (List Int)) (n : Int) (w : World) (h : RdIntss w v xs) (ok : okIntss xs) (hs : szIntss xs ≤ 1048576) (_ : I64 n) :
    Calls Try.prog 21 #[v, .int .i64 n] w fun e w' => e = .returned (.tuple #[.int .i64 (roV xs n), .int .i64 (roC xs n)]) ∧ Below w.heap.size w w' := by
  obtain ⟨a, ca, rfl, _, hm⟩ := h.form'
  have hsl := szIntss_len xs
  unfold maxLen at hm
  cases g : rowsB xs
  · obtain ⟨e1, e2⟩ := ro_no n g
    rw [e1, e2]
    have G := Lib.hid g; clear g e1 e2
    go_enter Try.func21, Try.ntmps21
    go_wp2_with fail
    refine (validRows_any _ xs _ h ok hs).mono ?_
    rw [G.out]
    rintro e w1 ⟨rfl, hb1⟩
    go_wp2
    go_ret2
    exact ⟨rfl, hb1⟩
  by_cases gn : roIn n
  rotate_left
  · obtain ⟨e1, e2⟩ := ro_bad g gn
    rw [e1, e2]
    have G := Lib.hid g; have GN := Lib.hid (noB gn); clear g gn e1 e2
    go_enter Try.func21, Try.ntmps21
    go_wp2_with fail
    refine (validRows_any _ xs _ h ok hs).mono ?_
    rw [G.out]
    rintro e w1 ⟨rfl, hb1⟩
    go_wp2_with fail
    refine (within_any false _ _ _ _ GN.out).mono ?_
    rintro e w2 ⟨rfl, rfl⟩
    go_wp2
    go_ret2
    exact ⟨rfl, hb1⟩
  · obtain ⟨e1, e2⟩ := ro_yes g gn
    have R := Lib.hid (rows_ok g)
    have E1 := Lib.hid e1; have E2 := Lib.hid e2; have G := Lib.hid g; have GN := Lib.hid (yesB gn)
    obtain ⟨m, hm2⟩ : ∃ m : Nat, m = n.toNat := ⟨_, rfl⟩
    unfold roIn at gn
    have hnm : n = (m : Int) := by omega
    rw [← hm2] at E1
    have m2 : 2 ≤ m := by omega
    have m12 : m ≤ 12 := by omega
    subst hnm
    clear g e1 e2 gn hm2
    go_enter Try.func21, Try.ntmps21
    go_wp2_with fail
    refine (validRows_any _ xs _ h ok hs).mono ?_
    rw [G.out]
    rintro e w1 ⟨rfl, hb1⟩
    go_wp2_with fail
    refine (within_any true _ _ _ _ GN.out).mono ?_
    rintro e w2 ⟨rfl, rfl⟩
    go_wp2_with fail
    go_loopw [6, 18, 8, 9] (fun c i _ _ wr => ∃ k : Nat, k ≤ xs.length ∧ i = .int .i64 (k : Int) ∧ c = .int .i64 (runCnt m xs k) ∧ Below w.heap.size w wr) (fun _ i _ _ _ => xs.length - (intOf i).toNat)
    case atStart => exact ⟨0, Nat.zero_le _, by go_num, rfl, hb1⟩
    case round =>
      obtain ⟨k, hk, rfl, rfl, hb⟩ := hrel
      have hz := hb.size
      by_cases hlt : k < xs.length
      · obtain ⟨b1, o1, lv, c1, rfl, hB, u0, uv⟩ := (h.mono hb).at hlt
        have hrow := R.out.2 _ (List.getElem_mem hlt)
        have hst := hrow.stage
        unfold stage at hst
        obtain ⟨cb0, cb1⟩ := cnt_bd m xs k
        have BD := Lib.hid (row_bd hrow)
        have w1' : IntKind.i64.wrap (runCnt m xs k + 1) = runCnt m xs k + 1 := IntWalk.i64_in _ (by omega)
        by_cases gl : xs[k].length < m
        · have d1 : decide ((m : Int) ≤ (xs[k].length : Int)) = false := by simp; omega
          have HX := Lib.hid (cnt_no (n := m) hlt (by unfold runAt; rw [decide_eq_false (by omega)]; rfl))
          clear hrow
          go_wp2_with fail
          refine (sizeI_any _ _ _ _).mono ?_
          rintro e w3 ⟨rfl, rfl⟩
          go_wp2
          go_roundw
          case rel => exact ⟨k + 1, by omega, by go_num, by rw [HX.out], hb⟩
          case measure => simp [intOf] <;> omega
        · have d1 : decide ((m : Int) ≤ (xs[k].length : Int)) = true := by simp; omega
          obtain ⟨hlc, hlm⟩ : xs[k].length ≤ c1 ∧ c1 ≤ maxLen := by
            obtain ⟨a', c', e, h1, h2, _⟩ := id uv
            simp only [Value.slice.injEq] at e
            obtain ⟨_, _, rfl⟩ := e
            exact ⟨h1, h2⟩
          unfold maxLen at hlm
          obtain ⟨bb, oo, rfl, _⟩ := Sl.cells uv (by simp <;> omega)
          have HTK := Lib.hid (ints_take2 uv rfl (k := m) (by omega))
          have HDR := Lib.hid (ints_drop uv rfl (k := xs[k].length - m) (by omega))
          have HRA := Lib.hid (show runAt m xs[k] = (runB (xs[k].take m) || runB (xs[k].drop (xs[k].length - m))) by unfold runAt; rw [decide_eq_true (by omega)]; rfl)
          have hBt := Lib.hid (show ∀ x ∈ xs[k].take m, 0 ≤ x ∧ x ≤ 1000 from fun x hx => BD.out x (List.mem_of_mem_take hx))
          have hBd := Lib.hid (show ∀ x ∈ xs[k].drop (xs[k].length - m), 0 ≤ x ∧ x ≤ 1000 from fun x hx => BD.out x (List.mem_of_mem_drop hx))
          have HDR2 := HDR.out
          rw [show xs[k].length - (xs[k].length - m) = m by omega] at HDR2
          have HDR3 := Lib.hid HDR2; clear HDR2 HDR
          have q1 : IntKind.i64.wrap ((xs[k].length : Int) - (m : Int)) = (xs[k].length : Int) - (m : Int) := IntWalk.i64_in _ (by omega)
          have q2 : ((xs[k].length : Int) - (m : Int)).toNat = xs[k].length - m := by omega
          have q3 : (0 : Int) ≤ (xs[k].length : Int) - (m : Int) := by omega
          have q4 : (xs[k].length : Int) - (m : Int) ≤ (xs[k].length : Int) := by omega
          have q5 : ¬ xs[k].length - m = c1 := by omega
          have q6 : (m : Int) ≤ (c1 : Int) := by omega
          have q7 : (0 : Int) ≤ (m : Int) := by omega
          have q8 : xs[k].length - (xs[k].length - m) = m := by omega
          have q9 : ¬ (c1 - (xs[k].length - m) = 0) := by omega
          clear hrow gl
          cases g1 : runB (xs[k].take m)
          · cases g2 : runB (xs[k].drop (xs[k].length - m))
            · have HX := Lib.hid (cnt_no (n := m) hlt (by rw [HRA.out, g1, g2]; rfl))
              have G1 := Lib.hid g1; have G2 := Lib.hid g2; clear g1 g2
              go_wp2_with fail
              refine (sizeI_any _ _ _ _).mono ?_
              rintro e w3 ⟨rfl, rfl⟩
              go_wp2_with fail
              refine (isRun_any _ (xs[k].take m) _ HTK.out hBt.out).mono ?_
              rw [G1.out]
              rintro e w4 ⟨rfl, hq1⟩
              have u0 := (hq1.cell _).trans u0
              go_wp2_with fail
              refine (isRun_any _ (xs[k].drop (xs[k].length - m)) _ (HDR3.out.q hq1) hBd.out).mono ?_
              rw [G2.out]
              rintro e w5 ⟨rfl, hq2⟩
              go_wp2
              go_roundw
              case rel => exact ⟨k + 1, by omega, by go_num, by rw [HX.out], hb.trans (((hq1.below _).trans (hq2.below _)).mono hz)⟩
              case measure => simp [intOf] <;> omega
            · have HX := Lib.hid (cnt_yes (n := m) hlt (by rw [HRA.out, g1, g2]; rfl))
              have G1 := Lib.hid g1; have G2 := Lib.hid g2; clear g1 g2
              go_wp2_with fail
              refine (sizeI_any _ _ _ _).mono ?_
              rintro e w3 ⟨rfl, rfl⟩
              go_wp2_with fail
              refine (isRun_any _ (xs[k].take m) _ HTK.out hBt.out).mono ?_
              rw [G1.out]
              rintro e w4 ⟨rfl, hq1⟩
              have u0 := (hq1.cell _).trans u0
              go_wp2_with fail
              refine (isRun_any _ (xs[k].drop (xs[k].length - m)) _ (HDR3.out.q hq1) hBd.out).mono ?_
              rw [G2.out]
              rintro e w5 ⟨rfl, hq2⟩
              go_wp2
              go_roundw
              case rel => exact ⟨k + 1, by omega, by go_num, by rw [HX.out], hb.trans (((hq1.below _).trans (hq2.below _)).mono hz)⟩
              case measure => simp [intOf] <;> omega
          · have HX := Lib.hid (cnt_yes (n := m) hlt (by rw [HRA.out, g1]; rfl))
            have G1 := Lib.hid g1; clear g1
            go_wp2_with fail
            refine (sizeI_any _ _ _ _).mono ?_
            rintro e w3 ⟨rfl, rfl⟩
            go_wp2_with fail
            refine (isRun_any _ (xs[k].take m) _ HTK.out hBt.out).mono ?_
            rw [G1.out]
            rintro e w4 ⟨rfl, hq1⟩
            have u0 := (hq1.cell _).trans u0
            go_wp2
            go_roundw
            case rel => exact ⟨k + 1, by omega, by go_num, by rw [HX.out], hb.trans ((hq1.below _).mono hz)⟩
            case measure => simp [intOf] <;> omega
      · obtain rfl : k = xs.length := by omega
        go_wp2
        go_ret2
        exact ⟨by rw [E1.out, E2.out]; rfl, hb⟩

end Go.Proofs.Ytadnejajbdipoaa
