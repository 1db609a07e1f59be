/- Contracts of l27Apply, applyChange and ApplyChange of both packages. -/
import Derived.Test.YtgdfecnpkjnhnaaDoorApplyL
import Derived.Test.YtgdfecnpkjnhnaaDoorStay
import Derived.Test.YtgdfecnpkjnhnaaDoorOrd
import Derived.Test.YtgdfecnpkjnhnaaDoorReg2
import Derived.Test.YtgdfecnpkjnhnaaDoorHasI
set_option linter.unusedSimpArgs false
set_option linter.unnecessarySimpa false
set_option linter.unusedVariables false
set_option maxRecDepth 100000
namespace Go.Proofs.YtgdfecnpkjnhnaaDoor
open Go.RowKit

theorem grown_d2 {a b : World} {row : Option Nat} (h : a.grownBy b row) : a.drew.grownBy b.drew row := ⟨h.os, h.tape, h.output, h.size, h.block⟩
theorem grown_dR {a b : World} {row : Option Nat} (h : a.grownBy b row) : a.grownBy b.drew row := ⟨h.os, h.tape, h.output, h.size, h.block⟩
theorem owns_dr {w : World} {base : Nat} {e : TypeId} {size n : Nat} {v : Value} {cs : List Value} (h : w.ownsRow base e size v n cs) : w.drew.ownsRow base e size v n cs := h
section
variable {w : World} {base g n c k : Nat} {e : TypeId} {A R : List Int} {x y : Int}
theorem irow_at (h : w.ownsRow base e 1 (.slice (some ⟨g, 0, none⟩) n c) n ((A ++ x :: y :: R).map (Value.int .i64))) (hA : A.length = k) :
    w.cell? ⟨g, k, none⟩ = some (.int .i64 x) ∧ w.cell? ⟨g, k + 1, none⟩ = some (.int .i64 y) := by
  have hl := h.1
  simp at hl
  constructor
  · rw [h.cellAt _ (by first | omega | (simp; omega))]
    simp [← hA]
  · rw [h.cellAt _ (by first | omega | (simp; omega))]
    simp [← hA]
theorem irow_set (h : w.ownsRow base e 1 (.slice (some ⟨g, 0, none⟩) n c) n ((A ++ x :: y :: R).map (Value.int .i64))) (hA : A.length = k) (p q : Int) :
    ((w.setCell ⟨g, k, none⟩ (.int .i64 p)).setCell ⟨g, k + 1, none⟩ (.int .i64 q)).ownsRow base e 1 (.slice (some ⟨g, 0, none⟩) n c) n ((A ++ p :: q :: R).map (Value.int .i64)) ∧
      w.grownBy ((w.setCell ⟨g, k, none⟩ (.int .i64 p)).setCell ⟨g, k + 1, none⟩ (.int .i64 q)) (some g) ∧ w.grownBy (w.setCell ⟨g, k, none⟩ (.int .i64 p)) (some g) := by
  rw [List.map_append, List.map_cons, List.map_cons] at h ⊢
  have h1 := stored1 (j := k) h (by rw [List.length_map]; exact hA) (.int .i64 p)
  have h2 := stored2 (j := k) h (by rw [List.length_map]; exact hA) (.int .i64 p) (.int .i64 q)
  exact ⟨h2.1, h2.2, h1.2⟩
end

set_option maxHeartbeats 1000000 in
theorem l27Apply_any (v1 v2 : Value) (xs ps : List Int) (w : World) (h1 : Ints w v1 xs) (h2 : Ints w v2 ps) (hst : stage xs.length) :
    Calls Tryd.prog 45 #[v1, v2] w fun e w' => ∃ v', e = .returned v' ∧ OwnInts w.heap.size w'.heap.size w' v' (applyL ps 0 xs) ∧ Below w.heap.size w w' := by
  obtain ⟨a1, ca, rfl, _, _, _⟩ := id h1
  obtain ⟨a2, cb, rfl, _, _, _⟩ := id h2
  unfold stage at hst
  go_enter Tryd.func45, Tryd.ntmps45
  go_wp2_with fail
  refine (l00Own_any _ xs _ h1 (by omega)).mono ?_
  rintro e w1 ⟨v1, rfl, ho1, hb1⟩
  obtain ⟨g, c, rfl, hg⟩ : ∃ g c, v1 = .slice (some ⟨g, 0, none⟩) xs.length c ∧ w.heap.size ≤ g := by
    rcases ho1.1.2 with ⟨rfl, h0⟩ | ⟨g, cap, cur, rfl, hg, _⟩
    · omega
    · exact ⟨g, cap, rfl, hg⟩
  have HO1 := Lib.hid ho1.1; clear ho1
  go_wp2_with fail
  go_loopw [7] (fun i wr => ∃ (k : Nat) (A : List Int), k ≤ xs.length ∧ i = .int .i64 (k : Int) ∧ A.length = k ∧ A ++ applyL ps k (xs.drop k) = applyL ps 0 xs ∧ wr.ownsRow w.heap.size 2 1 (.slice (some ⟨g, 0, none⟩) xs.length c) xs.length ((A ++ xs.drop k).map (Value.int .i64)) ∧ Below w.heap.size w wr) (fun i _ => xs.length - (intOf i).toNat)
  case atStart => exact ⟨0, [], Nat.zero_le _, by go_num, rfl, rfl, HO1.out, hb1⟩
  case round =>
    obtain ⟨k, A, hk, rfl, hA, hE, ho, hb⟩ := hrel
    have hz := hb.size
    have HO := Lib.hid ho; have HA := Lib.hid hA; have HE := Lib.hid hE; clear ho hA hE
    by_cases hlt : k < xs.length
    · have hi2 : Ints wr (.slice a2 ps.length cb) ps := Ints.mono h2 hb
      have w1' : IntKind.i64.wrap ((k : Int) + 1) = (k : Int) + 1 := IntWalk.i64_in _ (by omega)
      have w2' : IntKind.i64.wrap ((k : Int) + 2) = (k : Int) + 2 := IntWalk.i64_in _ (by omega)
      by_cases hm : ((k : Int) + 1) ∈ ps
      · have HM := Lib.hid (show true = decide (((k : Int) + 1) ∈ ps) by simpa using hm)
        have HN := Lib.hid (show (A ++ [xs[k]]) ++ applyL ps (k + 1) (xs.drop (k + 1)) = applyL ps 0 xs by rw [← HE.out, List.drop_eq_getElem_cons hlt, ap_stay hm]; simp)
        have HR := Lib.hid (show (A ++ [xs[k]]) ++ xs.drop (k + 1) = A ++ xs.drop k by rw [List.drop_eq_getElem_cons hlt]; simp)
        clear hm
        go_wp2_with fail
        refine (l00HasB_any true _ ps ((k : Int) + 1) _ hi2 HM.out).mono ?_
        rintro e w3 ⟨rfl, hq⟩
        have HO3 := Lib.hid (owns_mono HO.out (hq.below _))
        go_wp2
        go_roundw
        case rel => exact ⟨k + 1, A ++ [xs[k]], by omega, by go_num, by simp [HA.out], HN.out, by rw [HR.out]; exact HO3.out, hb.trans ((hq.below _).mono hz)⟩
        case measure => simp [intOf] <;> omega
      · have HM := Lib.hid (show false = decide (((k : Int) + 1) ∈ ps) by simpa using hm)
        by_cases hl : k + 1 = xs.length
        · have e1 : ((k : Int) + 1 == (xs.length : Int)) = true := by simp; omega
          have hd : xs.drop k = [xs[k]] := by rw [List.drop_eq_getElem_cons hlt, List.drop_eq_nil_of_le (by omega)]
          have HN := Lib.hid (show (A ++ [xs[k]]) ++ applyL ps (k + 1) (xs.drop (k + 1)) = applyL ps 0 xs by rw [← HE.out, hd, ap_one, List.drop_eq_nil_of_le (by omega), ap_nil]; simp)
          have HR := Lib.hid (show (A ++ [xs[k]]) ++ xs.drop (k + 1) = A ++ xs.drop k by rw [List.drop_eq_getElem_cons hlt]; simp)
          have HL := Lib.hid hl
          clear hm hl hd
          go_wp2_with fail
          refine (l00HasB_any false _ ps ((k : Int) + 1) _ hi2 HM.out).mono ?_
          rintro e w3 ⟨rfl, hq⟩
          have HO3 := Lib.hid (owns_mono HO.out (hq.below _))
          go_wp2
          go_roundw
          case rel => exact ⟨k + 1, A ++ [xs[k]], by omega, by go_num, by simp [HA.out], HN.out, by rw [HR.out]; exact HO3.out, hb.trans ((hq.below _).mono hz)⟩
          case measure => simp [intOf] <;> omega
        · have hlt2 : k + 1 < xs.length := by omega
          have e1 : ((k : Int) + 1 == (xs.length : Int)) = false := by simp; omega
          have hd : xs.drop k = xs[k] :: xs[k + 1] :: xs.drop (k + 2) := by rw [List.drop_eq_getElem_cons hlt, List.drop_eq_getElem_cons hlt2]
          have HN := Lib.hid (show (A ++ [xs[k + 1], xs[k]]) ++ applyL ps (k + 2) (xs.drop (k + 2)) = applyL ps 0 xs by rw [← HE.out, hd, ap_swap hm]; simp)
          have HD := Lib.hid hd
          clear hm hl hd
          go_wp2_with fail
          refine (l00HasB_any false _ ps ((k : Int) + 1) _ hi2 HM.out).mono ?_
          rintro e w3 ⟨rfl, hq⟩
          have hb3 := hb.trans ((hq.below _).mono hz)
          have HO3 := Lib.hid (show w3.ownsRow w.heap.size 2 1 (.slice (some ⟨g, 0, none⟩) xs.length c) xs.length ((A ++ xs[k] :: xs[k + 1] :: xs.drop (k + 2)).map (Value.int .i64)) by rw [← HD.out]; exact owns_mono HO.out (hq.below _))
          obtain ⟨b1, o1, rfl, x1⟩ := (Ints.mono h1 hb3).cells (by simp; omega)
          have d0 : w3.cell? ⟨b1, o1 + k, none⟩ = some (.int .i64 xs[k]) := x1 k _ (by simp [hlt])
          have d1 : w3.cell? ⟨b1, o1 + (k + 1), none⟩ = some (.int .i64 xs[k + 1]) := x1 (k + 1) _ (by simp [hlt2])
          obtain ⟨_, _, e9, hbl⟩ : ∃ b o, (some (⟨b1, o1, none⟩ : Addr)) = some ⟨b, o, none⟩ ∧ b < w.heap.size := by
            obtain ⟨b, o, e, hc⟩ := h1.cells (by simp; omega)
            exact ⟨b, o, e, World.block_lt_of_cell? w _ (hc 0 (.int .i64 xs[0]) (by simp <;> omega))⟩
          cases e9
          have n1 : ¬ b1 = g := by omega
          have n2 : ¬ g = b1 := by omega
          obtain ⟨c0, c1⟩ := irow_at HO3.out HA.out
          have f0 := HO3.out.frozenAt k
          have f1 := HO3.out.frozenAt (k + 1)
          have q6 : g < w3.heap.size := (HO3.out.lt _ rfl).2
          have ST := Lib.hid (irow_set HO3.out HA.out xs[k + 1] xs[k])
          have z1 : ((k : Int) + 1).toNat = k + 1 := by omega
          have z0 : (0 : Int) ≤ (k : Int) + 1 := by omega
          have z2 : (k : Int) + 1 < (xs.length : Int) := by omega
          have HB3 := Lib.hid hb3
          clear x1 hb3 hq
          go_wp2
          go_roundw
          case rel => exact ⟨k + 2, A ++ [xs[k + 1], xs[k]], by omega, by go_num, by simp [HA.out], HN.out, by have := ST.out.1; simpa using this, HB3.out.grown ST.out.2.1 (by omega) (by intro q hq; cases hq; exact hg)⟩
          case measure => simp [intOf] <;> omega
    · obtain rfl : k = xs.length := by omega
      have HF := Lib.hid (show A = applyL ps 0 xs by rw [← HE.out, List.drop_eq_nil_of_le (by omega), ap_nil]; simp)
      go_wp2
      go_ret
      refine ⟨_, rfl, OwnInts.mk' ?_, hb⟩
      rw [ap_len ps xs.length 0 xs (Nat.le_refl _), ← HF.out]
      have := HO.out
      rwa [List.drop_eq_nil_of_le (by omega), List.append_nil] at this

set_option maxHeartbeats 1000000 in
theorem applyChange_any (v1 : Value) (xs : List Int) (s : ByteArray) (w : World) (h1 : Ints w v1 xs) (hs : s.size ≤ 1048576) (hst : stage xs.length) (hB : stayB s xs.length = true) :
    Calls Tryd.prog 47 #[v1, .string s] w fun e w' => ∃ v', e = .returned v' ∧ OwnInts w.heap.size w'.heap.size w' v' (applyL (stayV s xs.length) 0 xs) ∧ Below w.heap.size w w' := by
  obtain ⟨a1, ca, rfl, _, _, _⟩ := id h1
  have HF := Lib.hid (fits_start (stay_good hst hB))
  have HB := Lib.hid hB
  unfold stage at hst
  have hI : I64 (xs.length : Int) := by simp only [I64, Lit.wf, IntKind.min, IntKind.max, IntKind.signed, IntKind.bits]; simp; omega
  obtain ⟨ps, hps⟩ : ∃ ps, ps = stayV s xs.length := ⟨_, rfl⟩
  rw [← hps] at HF ⊢
  have HPS := Lib.hid hps; clear hps hB
  go_enter Tryd.func47, Tryd.ntmps47
  go_wp2_with fail
  refine (sizeI_any _ _ _ _).mono ?_
  rintro e w9 ⟨rfl, rfl⟩
  go_wp2_with fail
  refine (staying_any s xs.length _ (by unfold maxLen; omega) hI).mono ?_
  rw [HB.out]
  rintro e w0 ⟨v0, rfl, ho0, hb0⟩
  rw [← HPS.out] at ho0
  obtain ⟨a2, cb, rfl⟩ := ho0.form
  have HI0 := Lib.hid ho0.rd
  have hz0 := hb0.size
  go_wp2_with fail
  refine (cloneInts_any _ xs _ (Ints.mono h1 hb0) (by omega)).mono ?_
  rintro e w1 ⟨v1, rfl, ho1, hb1⟩
  obtain ⟨g, c, rfl, hg⟩ : ∃ g c, v1 = .slice (some ⟨g, 0, none⟩) xs.length c ∧ w0.heap.size ≤ g := by
    rcases ho1.1.2 with ⟨rfl, h0⟩ | ⟨g, cap, cur, rfl, hg, _⟩
    · omega
    · exact ⟨g, cap, rfl, hg⟩
  have HO1 := Lib.hid ho1.1; have HI1 := Lib.hid (Ints.mono HI0.out hb1); have HB1 := Lib.hid hb1; clear ho1 ho0 hb1
  go_wp2_with fail
  go_loopw [8] (fun i wr => ∃ (k : Nat) (A : List Int), k ≤ xs.length ∧ i = .int .i64 (k : Int) ∧ A.length = k ∧ A ++ applyL ps k (xs.drop k) = applyL ps 0 xs ∧ fits xs.length ps k ∧ wr.ownsRow w0.heap.size 2 1 (.slice (some ⟨g, 0, none⟩) xs.length c) xs.length ((A ++ xs.drop k).map (Value.int .i64)) ∧ Below w0.heap.size w0 wr) (fun i _ => xs.length - (intOf i).toNat)
  case atStart => exact ⟨0, [], Nat.zero_le _, by go_num, rfl, rfl, HF.out, HO1.out, HB1.out⟩
  case round =>
    obtain ⟨k, A, hk, rfl, hA, hE, hF, ho, hb⟩ := hrel
    have hz := hb.size
    have HO := Lib.hid ho; have HA := Lib.hid hA; have HE := Lib.hid hE; have HFk := Lib.hid hF; clear ho hA hE hF
    by_cases hlt : k < xs.length
    · have hi2 : Ints wr (.slice a2 ps.length cb) ps := Ints.mono HI0.out hb
      have w1' : IntKind.i64.wrap ((k : Int) + 1) = (k : Int) + 1 := IntWalk.i64_in _ (by omega)
      have w2' : IntKind.i64.wrap ((k : Int) + 2) = (k : Int) + 2 := IntWalk.i64_in _ (by omega)
      by_cases hm : ((k : Int) + 1) ∈ ps
      · have HM := Lib.hid (show true = decide (((k : Int) + 1) ∈ ps) by simpa using hm)
        have HN := Lib.hid (show (A ++ [xs[k]]) ++ applyL ps (k + 1) (xs.drop (k + 1)) = applyL ps 0 xs by rw [← HE.out, List.drop_eq_getElem_cons hlt, ap_stay hm]; simp)
        have HR := Lib.hid (show (A ++ [xs[k]]) ++ xs.drop (k + 1) = A ++ xs.drop k by rw [List.drop_eq_getElem_cons hlt]; simp)
        have HFN := Lib.hid (fits_stay HFk.out hm)
        clear hm
        go_wp2_with fail
        refine (containsI_any true _ ps ((k : Int) + 1) _ hi2 HM.out).mono ?_
        rintro e w3 ⟨rfl, hq⟩
        have HO3 := Lib.hid (owns_mono HO.out (hq.below _))
        go_wp2
        go_roundw
        case rel => exact ⟨k + 1, A ++ [xs[k]], by omega, by go_num, by simp [HA.out], HN.out, HFN.out, by rw [HR.out]; exact HO3.out, hb.trans ((hq.below _).mono hz)⟩
        case measure => simp [intOf] <;> omega
      · have HM := Lib.hid (show false = decide (((k : Int) + 1) ∈ ps) by simpa using hm)
        obtain ⟨hk2, hfn⟩ := fits_swap HFk.out (by omega) hm
        have HFN := Lib.hid hfn
        have hlt2 : k + 1 < xs.length := by omega
        have hd : xs.drop k = xs[k] :: xs[k + 1] :: xs.drop (k + 2) := by rw [List.drop_eq_getElem_cons hlt, List.drop_eq_getElem_cons hlt2]
        have HN := Lib.hid (show (A ++ [xs[k + 1], xs[k]]) ++ applyL ps (k + 2) (xs.drop (k + 2)) = applyL ps 0 xs by rw [← HE.out, hd, ap_swap hm]; simp)
        have HD := Lib.hid hd
        clear hm hd hfn
        go_wp2_with fail
        refine (containsI_any false _ ps ((k : Int) + 1) _ hi2 HM.out).mono ?_
        rintro e w3 ⟨rfl, hq⟩
        have hb3 := hb.trans ((hq.below _).mono hz)
        have HO3 := Lib.hid (show w3.ownsRow w0.heap.size 2 1 (.slice (some ⟨g, 0, none⟩) xs.length c) xs.length ((A ++ xs[k] :: xs[k + 1] :: xs.drop (k + 2)).map (Value.int .i64)) by rw [← HD.out]; exact owns_mono HO.out (hq.below _))
        obtain ⟨c0, c1⟩ := irow_at HO3.out HA.out
        have f0 := HO3.out.frozenAt k
        have f1 := HO3.out.frozenAt (k + 1)
        have q6 : g < w3.heap.size := (HO3.out.lt _ rfl).2
        have ST := Lib.hid (irow_set HO3.out HA.out xs[k + 1] xs[k])
        have z1 : ((k : Int) + 1).toNat = k + 1 := by omega
        have z0 : (0 : Int) ≤ (k : Int) + 1 := by omega
        have z2 : (k : Int) + 1 < (xs.length : Int) := by omega
        have HB3 := Lib.hid hb3
        clear hb3 hq
        go_wp2_with fail
        refine wp_region_ordG [(0, 1), (1, 1), (2, 1), (3, 1), (4, 1), (5, 1), (6, 1), (7, 1), (8, 1), (9, 2), (10, 1), (11, 1), (12, 1), (13, 2), (14, 1), (15, 0), (16, 1), (17, 0)] [15, 17] (some g) (by kernel_rfl) (by kernel_rfl) ?_
        (repeat ((first | with_reducible refine wpOrdG_soft (fun K hK => ?_) | with_reducible refine wpOrdG_pre (fun K hK => ?_)); simp only [List.getElem?_toArray, List.getElem?_cons_zero, List.getElem?_cons_succ]; first | (go_simp; refine hK _ ?_) | (simp only [undef]; go_simp; refine hK _ ?_); clear hK K))
        (with_reducible refine wpOrdG_hard ?_; simp only [List.getElem?_toArray, List.getElem?_cons_zero, List.getElem?_cons_succ])
        go_wp2_with fail
        refine ⟨grown_d2 ST.out.2.2, ?_⟩
        (repeat ((first | with_reducible refine wpOrdG_soft (fun K hK => ?_) | with_reducible refine wpOrdG_pre (fun K hK => ?_)); simp only [List.getElem?_toArray, List.getElem?_cons_zero, List.getElem?_cons_succ]; first | (go_simp; refine hK _ ?_) | (simp only [undef]; go_simp; refine hK _ ?_); clear hK K))
        (with_reducible refine wpOrdG_hard ?_; simp only [List.getElem?_toArray, List.getElem?_cons_zero, List.getElem?_cons_succ])
        go_wp2_with fail
        refine ⟨grown_d2 ST.out.2.1, ?_⟩
        (with_reducible refine wpOrdG_nil ?_); refine NoPanic.normal ?_
        clear w1' w2'
        go_wp2
        go_roundw
        case rel => exact ⟨k + 2, A ++ [xs[k + 1], xs[k]], by omega, by go_num, by simp [HA.out], HN.out, HFN.out, by have := owns_dr ST.out.1; simpa using this, HB3.out.grown (grown_dR ST.out.2.1) (by omega) (by intro q hq; cases hq; exact hg)⟩
        case measure => simp [intOf] <;> omega
    · obtain rfl : k = xs.length := by omega
      have HF := Lib.hid (show A = applyL ps 0 xs by rw [← HE.out, List.drop_eq_nil_of_le (by omega), ap_nil]; simp)
      go_wp2
      go_ret
      refine ⟨_, rfl, ?_, hb0.trans (hb.mono hz0)⟩
      have h9 : OwnInts w0.heap.size wr.heap.size wr (.slice (some ⟨g, 0, none⟩) xs.length c) (applyL ps 0 xs) := OwnInts.mk' (by
        rw [ap_len ps xs.length 0 xs (Nat.le_refl _), ← HF.out]
        have := HO.out
        rwa [List.drop_eq_nil_of_le (by omega), List.append_nil] at this)
      exact h9.wide hz0 (Nat.le_refl _)

end Go.Proofs.YtgdfecnpkjnhnaaDoor
