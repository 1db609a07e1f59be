/- Contract of swapRangeCmpFunc at tones. -/
import Derived.Test.YthnnjjcopehccaaTonRow
set_option linter.unusedSimpArgs false
set_option linter.unnecessarySimpa false
set_option linter.unusedVariables false
set_option maxRecDepth 100000
namespace Go.Proofs.Ythnnjjcopehccaa
open Go.RowKit

theorem swapR_form (A L M R C : List Ton) (i : Nat) (hl : i < L.length) (hr : i < R.length) :
    A ++ (R.take i ++ (L.drop i ++ (M ++ (L.take i ++ (R.drop i ++ C))))) = (A ++ R.take i) ++ L[i] :: (L.drop (i + 1) ++ (M ++ (L.take i ++ (R[i] :: (R.drop (i + 1) ++ C))))) := by
  rw [List.drop_eq_getElem_cons hl, List.drop_eq_getElem_cons hr]; simp only [List.append_assoc, List.cons_append]
theorem swapR_form2 (A L M R C : List Ton) (i : Nat) (x y : Ton) :
    (A ++ R.take i) ++ x :: (L.drop (i + 1) ++ (M ++ (L.take i ++ (y :: (R.drop (i + 1) ++ C))))) = ((A ++ R.take i) ++ x :: (L.drop (i + 1) ++ (M ++ L.take i))) ++ y :: (R.drop (i + 1) ++ C) := by simp
theorem swapR_next (A L M R C : List Ton) (i : Nat) (hl : i < L.length) (hr : i < R.length) :
    ((A ++ R.take i) ++ R[i] :: (L.drop (i + 1) ++ (M ++ L.take i))) ++ L[i] :: (R.drop (i + 1) ++ C) = A ++ (R.take (i + 1) ++ (L.drop (i + 1) ++ (M ++ (L.take (i + 1) ++ (R.drop (i + 1) ++ C))))) := by
  rw [List.take_succ_eq_append_getElem hl, List.take_succ_eq_append_getElem hr]; simp only [List.append_assoc, List.cons_append, List.nil_append]

set_option maxHeartbeats 2000000 in
theorem swapRange_any (base g n cap a b m : Nat) (f : Value) (A L M R C : List Ton) (w : World) (h : TR w base g n cap (A ++ (L ++ (M ++ (R ++ C))))) (hn : n ≤ 1000000) (ha : A.length = a) (hl : L.length = m) (hr : R.length = m) (hb : A.length + (L.length + M.length) = b) :
    Calls Try.prog 32 #[.slice (some ⟨g, 0, none⟩) n cap, .int .i64 a, .int .i64 b, .int .i64 m, f] w fun e w' => e = .returned (.tuple #[]) ∧ TR w' base g n cap (A ++ (R ++ (M ++ (L ++ C)))) ∧ w.grownBy w' (some g) := by
  have hln := h.len
  simp only [List.length_append] at hln
  have hcn : n ≤ cap := by rcases h.2.2 with ⟨e, _⟩ | ⟨g', cap', cur, e, _, _, h1, _⟩ <;> cases e; exact h1
  have HA := Lib.hid ha; have HL := Lib.hid hl; have HR := Lib.hid hr; have HB := Lib.hid hb; have HN := Lib.hid hln
  have q1 : a + m ≤ n := by omega
  have q2 : b + m ≤ n := by omega
  have q3 : a + m ≤ b := by omega
  clear ha hl hr hb hln
  go_enter Try.func32, Try.ntmps32
  go_wp2_with fail
  go_loopw [10] (fun i wr => ∃ j : Nat, j ≤ m ∧ i = .int .i64 j ∧ TR wr base g n cap (A ++ (R.take j ++ (L.drop j ++ (M ++ (L.take j ++ (R.drop j ++ C)))))) ∧ w.grownBy wr (some g)) (fun i _ => m - (intOf i).toNat)
  case atStart => exact ⟨0, Nat.zero_le _, rfl, by simpa using h, World.grownBy.refl _ _⟩
  case round =>
    obtain ⟨j, hj, rfl, hT, hg⟩ := hrel
    by_cases hlt : j < m
    · have hjl : j < L.length := by rw [HL.out]; exact hlt
      have hjr : j < R.length := by rw [HR.out]; exact hlt
      have e1 := swapR_form A L M R C j hjl hjr
      rw [e1] at hT
      have ka : (A ++ R.take j).length = a + j := by rw [List.length_append, HA.out, List.length_take, Nat.min_eq_left (by omega)]
      have kb : ∀ x, ((A ++ R.take j) ++ x :: (L.drop (j + 1) ++ (M ++ L.take j))).length = b + j := fun x => by
        have := HB.out; have := HL.out; have := HA.out
        simp only [List.length_append, List.length_cons, List.length_take, List.length_drop]; omega
      obtain ⟨c0, c1, c2⟩ := hT.atM ka
      have hT2 := hT
      rw [swapR_form2] at hT2
      obtain ⟨d0, d1, d2⟩ := hT2.atM (kb _)
      have f0 := hT.fr
      have hlt' := hT.lt.2
      have KA := Lib.hid ka; have KB := Lib.hid kb; have HT := Lib.hid hT; clear ka kb hT2 e1 hT
      have z1 : ((a : Int) + (j : Int)).toNat = a + j := by omega
      have z2 : ((b : Int) + (j : Int)).toNat = b + j := by omega
      have w1' : IntKind.i64.wrap ((a : Int) + (j : Int)) = (a : Int) + (j : Int) := IntWalk.i64_in _ (by omega)
      have w2' : IntKind.i64.wrap ((b : Int) + (j : Int)) = (b : Int) + (j : Int) := IntWalk.i64_in _ (by omega)
      have b1 : (0 : Int) ≤ (a : Int) + (j : Int) := by omega
      have b2 : (0 : Int) ≤ (b : Int) + (j : Int) := by omega
      have b3 : (a : Int) + (j : Int) < (n : Int) := by omega
      have b4 : (b : Int) + (j : Int) < (n : Int) := by omega
      go_wp2_with fail
      refine wp_region_ordG [(0, 1), (1, 1), (2, 1), (3, 1), (4, 1), (5, 1), (6, 1), (7, 1), (8, 1), (9, 1), (10, 1), (11, 1), (12, 1), (13, 2), (14, 1), (15, 1), (16, 1), (17, 1), (18, 1), (19, 2), (20, 1), (21, 0), (22, 1), (23, 0)] [21, 23] (some g) (by kernel_rfl) (by kernel_rfl) ?_
      (repeat ((first | with_reducible refine wpOrdG_soft (fun K hK => ?_) | with_reducible refine wpOrdG_pre (fun K hK => ?_)); simp only [List.getElem?_toArray, List.getElem?_cons_zero, List.getElem?_cons_succ]; first | (go_simp; refine hK _ ?_) | (simp only [undef]; go_simp; refine hK _ ?_); clear hK K))
      (with_reducible refine wpOrdG_hard ?_; simp only [List.getElem?_toArray, List.getElem?_cons_zero, List.getElem?_cons_succ])
      go_wp2_with fail
      have s1 := HT.out.setM KA.out R[j]
      refine ⟨grown_drew2 s1.2, ?_⟩
      have S1 := Lib.hid s1; clear s1
      (repeat ((first | with_reducible refine wpOrdG_soft (fun K hK => ?_) | with_reducible refine wpOrdG_pre (fun K hK => ?_)); simp only [List.getElem?_toArray, List.getElem?_cons_zero, List.getElem?_cons_succ]; first | (go_simp; refine hK _ ?_) | (simp only [undef]; go_simp; refine hK _ ?_); clear hK K))
      (with_reducible refine wpOrdG_hard ?_; simp only [List.getElem?_toArray, List.getElem?_cons_zero, List.getElem?_cons_succ])
      go_wp2_with fail
      have s2 := S1.out.1
      rw [swapR_form2] at s2
      have s3 := s2.setM (KB.out _) L[j]
      have g3 := grown_trans S1.out.2 s3.2
      refine ⟨grown_drew2 g3, ?_⟩
      have T3 := Lib.hid s3.1; have G3 := Lib.hid g3; clear s2 s3 g3
      (with_reducible refine wpOrdG_nil ?_); refine NoPanic.normal ?_
      clear w1' w2'
      go_wp2
      go_roundw
      case rel => exact ⟨j + 1, by omega, by go_num, by have := T3.out; rw [swapR_next A L M R C j hjl hjr] at this; exact this.drew, grown_trans hg (grown_drewR G3.out)⟩
      case measure => simp [intOf] <;> omega
    · obtain rfl : j = m := by omega
      have e1 : A ++ (R.take j ++ (L.drop j ++ (M ++ (L.take j ++ (R.drop j ++ C))))) = A ++ (R ++ (M ++ (L ++ C))) := by
        rw [List.take_of_length_le (by rw [HR.out]; omega), List.drop_eq_nil_of_le (by rw [HL.out]; omega), List.take_of_length_le (by rw [HL.out]; omega), List.drop_eq_nil_of_le (by rw [HR.out]; omega)]; simp
      have E1 := Lib.hid e1; clear e1
      go_wp2
      go_end0
      exact ⟨rfl, by rw [← E1.out]; exact hT, hg⟩

end Go.Proofs.Ythnnjjcopehccaa
