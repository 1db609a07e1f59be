/- symMergeCmpFunc at tones, where the right part is one tone and the left part more. -/
import Derived.Test.YthnnjjcopehccaaSymA
set_option linter.unusedSimpArgs false
set_option linter.unnecessarySimpa false
set_option linter.unusedVariables false
set_option maxRecDepth 100000
namespace Go.Proofs.Ythnnjjcopehccaa
open Go.RowKit

theorem formL (A L C : List Ton) (k : Nat) (hk : k < L.length) : A ++ (L ++ C) = (A ++ L.take k) ++ L[k] :: (L.drop (k + 1) ++ C) := by
  have e : L ++ C = L.take k ++ (L[k] :: (L.drop (k + 1) ++ C)) := by
    conv => lhs; rw [← List.take_append_drop k L, List.drop_eq_getElem_cons hk]
    simp only [List.append_assoc, List.cons_append]
  rw [e]; simp only [List.append_assoc, List.cons_append]
theorem back_form (A P Q C : List Ton) (y x : Ton) : A ++ ((P ++ [y]) ++ x :: (Q ++ C)) = (A ++ P) ++ y :: (x :: (Q ++ C)) ∧ A ++ ((P ++ [y]) ++ x :: (Q ++ C)) = (A ++ (P ++ [y])) ++ x :: (Q ++ C) ∧ (A ++ (P ++ [y])) ++ y :: (Q ++ C) = (A ++ P) ++ y :: (y :: (Q ++ C)) := by simp

set_option maxHeartbeats 2000000 in
theorem symB_any (base g n cap a m b : Nat) (A L C : List Ton) (x : Ton) (w : World) (h : TR w base g n cap (A ++ (L ++ (x :: C)))) (hn : n ≤ 1000000) (ha : A.length = a) (hm : a + L.length = m) (hb : m + 1 = b) (hL : Srt L) (hL1 : L.length ≠ 1) :
    Calls Try.prog 30 #[.slice (some ⟨g, 0, none⟩) n cap, .int .i64 a, .int .i64 m, .int .i64 b, .func (.func 18) #[] #[]] w fun e w' => e = .returned (.tuple #[]) ∧ (∃ S', S'.Perm (L ++ [x]) ∧ Srt S' ∧ TR w' base g n cap (A ++ (S' ++ C))) ∧ w.grownBy w' (some g) := by
  have hln := h.len
  simp only [List.length_append, List.length_cons] at hln
  have hcn : n ≤ cap := by rcases h.2.2 with ⟨e, _⟩ | ⟨g', cap', cur, e, _, _, h1, _⟩ <;> cases e; exact h1
  have hgb := h.lt.1
  have q1 : b ≤ n := by omega
  have q2 : a ≤ m := by omega
  have q4 : m < b := by omega
  have q3 : L.length = m - a := by omega
  have HA := Lib.hid ha; have HB := Lib.hid hb; have HS := Lib.hid q3; have HR := Lib.hid hL
  have E0 := Lib.hid hm
  have dm : decide ((m : Int) - (a : Int) = 1) = false := by simp; omega
  have dm2 : (((m : Int) - (a : Int)) == 1) = false := by simp; omega
  have db : decide ((b : Int) - (m : Int) = 1) = true := by simp; omega
  have db2 : (((b : Int) - (m : Int)) == 1) = true := by simp; omega
  clear hln ha hb q3 hL hm hL1
  go_enter Try.func30, Try.ntmps30
  go_wp2_with fail
  go_loopw [14, 15] (fun i j wr => ∃ (lo hi : Nat), i = .int .i64 ((a : Int) + (lo : Int)) ∧ j = .int .i64 ((a : Int) + (hi : Int)) ∧ lo ≤ hi ∧ hi ≤ m - a ∧ (∀ k (hk : k < L.length), k < lo → leT L[k] x) ∧ (∀ k (hk : k < L.length), hi ≤ k → before x L[k]) ∧ TR wr base g n cap (A ++ (L ++ (x :: C))) ∧ w.grownBy wr (some g)) (fun i j _ => (intOf j - intOf i).toNat)
  case atStart => exact ⟨0, m - a, by go_num, by go_num, by omega, Nat.le_refl _, by omega, (fun k hk h => absurd hk (by rw [HS.out]; omega)), h, World.grownBy.refl _ _⟩
  case round =>
    obtain ⟨lo, hi, rfl, rfl, hlh, hhb, h1, h2, hT, hg⟩ := hrel
    by_cases hlt : lo < hi
    · obtain ⟨q, hq⟩ : ∃ q : Nat, q = (lo + hi) / 2 := ⟨_, rfl⟩
      obtain ⟨hq1, hq2⟩ := mid_bd hlt
      rw [← hq] at hq1 hq2
      have EQ := Lib.hid (show ((a : Int) + (lo : Int) + ((a : Int) + (hi : Int))) / 2 = (a : Int) + (q : Int) by omega)
      clear hq
      have hqr : q < L.length := by rw [HS.out]; omega
      have hT1 := hT
      rw [← List.append_assoc] at hT1
      obtain ⟨c0, c1, c2⟩ := hT1.atM (k := m) (by rw [List.length_append, HA.out]; exact E0.out)
      have hT2 := hT
      rw [formL A L (x :: C) q hqr] at hT2
      obtain ⟨d0, d1, d2⟩ := hT2.atM (k := a + q) (by rw [List.length_append, List.length_take, HA.out]; omega)
      have hlt' := hT.lt.2
      have z2 : ((a : Int) + (q : Int)).toNat = a + q := by omega
      have b1 : (0 : Int) ≤ (a : Int) + (q : Int) := by omega
      have b2 : (a : Int) + (q : Int) < (n : Int) := by omega
      have b3 : (m : Int) < (n : Int) := by omega
      have HT := Lib.hid hT; have H1 := Lib.hid h1; have H2 := Lib.hid h2; clear hT1 hT2 hT h1 h2
      by_cases hbx : before x L[q]
      · have hc : decide (cmpT x L[q] < 0) = true := by simpa using (cmpT_neg x _).2 hbx
        have hc2 : decide (0 ≤ cmpT x L[q]) = false := by have := (cmpT_neg x _).2 hbx; simp; omega
        have HBf := Lib.hid hbx; clear hbx
        go_wp2_with fail
        simp only [EQ.out]
        refine wp_region_ordG [(0, 1), (1, 1), (2, 1), (3, 1), (4, 2), (5, 1), (6, 1), (7, 1), (8, 2), (9, 0), (10, 1), (11, 1)] [9] (none) (by kernel_rfl) (by kernel_rfl) ?_
        (repeat ((first | with_reducible refine wpOrdG_soft (fun K hK => ?_) | with_reducible refine wpOrdG_pre (fun K hK => ?_)); simp only [List.getElem?_toArray, List.getElem?_cons_zero, List.getElem?_cons_succ]; first | (go_simp; refine hK _ ?_) | (simp only [undef]; go_simp; refine hK _ ?_); clear hK K))
        (with_reducible refine wpOrdG_hard ?_; simp only [List.getElem?_toArray, List.getElem?_cons_zero, List.getElem?_cons_succ])
        go_wp2_with fail
        refine (compareTones_any x L[q] _).mono ?_
        rintro e w1 ⟨rfl, hb1⟩
        go_wp2_with fail
        refine ⟨grown_of_below hb1, ?_⟩
        (repeat ((first | with_reducible refine wpOrdG_soft (fun K hK => ?_) | with_reducible refine wpOrdG_pre (fun K hK => ?_)); simp only [List.getElem?_toArray, List.getElem?_cons_zero, List.getElem?_cons_succ]; first | (go_simp; refine hK _ ?_) | (simp only [undef]; go_simp; refine hK _ ?_); clear hK K))
        (with_reducible refine wpOrdG_nil ?_); refine NoPanic.normal ?_
        have hb2 := undrew hb1
        go_wp2
        go_roundw
        case rel =>
          refine ⟨lo, q, rfl, rfl, by omega, by omega, H1.out, fun k hk hkq => before_le HBf.out (srt_at HR.out hkq hk), HT.out.mono hb2, grown_trans hg (grown_row' hb2)⟩
        case measure => simp [intOf] <;> omega
      · have hc : decide (cmpT x L[q] < 0) = false := by have : ¬ cmpT x L[q] < 0 := fun h => hbx ((cmpT_neg x _).1 h); simp; omega
        have hc2 : decide (0 ≤ cmpT x L[q]) = true := by have : ¬ cmpT x L[q] < 0 := fun h => hbx ((cmpT_neg x _).1 h); simp; omega
        have HBf := Lib.hid hbx; clear hbx
        go_wp2_with fail
        simp only [EQ.out]
        refine wp_region_ordG [(0, 1), (1, 1), (2, 1), (3, 1), (4, 2), (5, 1), (6, 1), (7, 1), (8, 2), (9, 0), (10, 1), (11, 1)] [9] (none) (by kernel_rfl) (by kernel_rfl) ?_
        (repeat ((first | with_reducible refine wpOrdG_soft (fun K hK => ?_) | with_reducible refine wpOrdG_pre (fun K hK => ?_)); simp only [List.getElem?_toArray, List.getElem?_cons_zero, List.getElem?_cons_succ]; first | (go_simp; refine hK _ ?_) | (simp only [undef]; go_simp; refine hK _ ?_); clear hK K))
        (with_reducible refine wpOrdG_hard ?_; simp only [List.getElem?_toArray, List.getElem?_cons_zero, List.getElem?_cons_succ])
        go_wp2_with fail
        refine (compareTones_any x L[q] _).mono ?_
        rintro e w1 ⟨rfl, hb1⟩
        go_wp2_with fail
        refine ⟨grown_of_below hb1, ?_⟩
        (repeat ((first | with_reducible refine wpOrdG_soft (fun K hK => ?_) | with_reducible refine wpOrdG_pre (fun K hK => ?_)); simp only [List.getElem?_toArray, List.getElem?_cons_zero, List.getElem?_cons_succ]; first | (go_simp; refine hK _ ?_) | (simp only [undef]; go_simp; refine hK _ ?_); clear hK K))
        (with_reducible refine wpOrdG_nil ?_); refine NoPanic.normal ?_
        have hb2 := undrew hb1
        go_wp2
        go_roundw
        case rel =>
          refine ⟨q + 1, hi, by go_num, rfl, by omega, hhb, fun k hk hkq => leT_trans (srt_at HR.out (by omega) hqr) HBf.out, H2.out, HT.out.mono hb2, grown_trans hg (grown_row' hb2)⟩
        case measure => simp [intOf] <;> omega
    · obtain rfl : lo = hi := by omega
      have HP1 := Lib.hid (tk_all (Q := fun y => leT y x) h1)
      have HP2 := Lib.hid (dr_all (Q := fun y => before x y) h2)
      have k1 : (L.take lo).length = lo := by rw [List.length_take, HS.out]; omega
      have k2 : (L.drop lo).length = m - a - lo := by rw [List.length_drop, HS.out]
      have K1 := Lib.hid k1; have K2 := Lib.hid k2
      have hT0 : TR wr base g n cap ((A ++ L.take lo) ++ (L.drop lo ++ x :: ([] ++ C))) := by rw [List.nil_append, List.append_assoc A, cut2]; exact hT
      have HT := Lib.hid hT0
      obtain ⟨wo, rfl⟩ : ∃ wo : World, wo = wr := ⟨_, rfl⟩
      have hgo : wo.grownBy wo (some g) := World.grownBy.refl _ _
      clear h1 h2 hT hT0 k1 k2
      go_wp2_with fail
      go_loopw [17] (fun k wr => ∃ (P Q : List Ton) (k0 : Nat), k = .int .i64 (k0 : Int) ∧ a + lo + P.length = k0 ∧ P.length + Q.length = m - a - lo ∧ P ++ Q = L.drop lo ∧ TR wr base g n cap ((A ++ L.take lo) ++ (P ++ x :: (Q ++ C))) ∧ w.grownBy wr (some g)) (fun k _ => (intOf k).toNat)
      case atStart => exact ⟨L.drop lo, [], m, rfl, by rw [K2.out]; omega, by simpa using K2.out, by simp, HT.out, hg⟩
      case round =>
        obtain ⟨P, Q, k, rfl, hk, hl, he, hT', hg'⟩ := hrel
        have hm := E0.out
        have HE := Lib.hid he; clear he
        rcases List.eq_nil_or_concat P with rfl | ⟨P, y, rfl⟩
        · have hkk : k = a + lo := by simp at hk; omega
          have d0 : decide ((a : Int) + (lo : Int) < (k : Int)) = false := by simp; omega
          have HT' := Lib.hid hT'; clear hT' hl hk
          go_wp2
          ((try simp only [Exit.inBlock, Exit.then]); refine bodyPost_ret (results_none rfl _ _ _) rfl ?_)
          have e1 : Q = L.drop lo := by have := HE.out; simpa using this
          subst e1
          exact ⟨rfl, ⟨L.take lo ++ x :: L.drop lo, List.perm_middle.trans (by rw [List.take_append_drop]; exact (List.perm_append_comm (l₁ := [x]))), Srt.insert (by rw [List.take_append_drop]; exact HR.out) HP1.out (fun y hy => leT_of (HP2.out y hy)), by have := HT'.out; simpa using this⟩, hg'⟩
        · rw [List.concat_eq_append] at hk hl hT' HE
          have hk3 : a + lo + P.length = k - 1 ∧ 1 ≤ k ∧ a + lo < k ∧ k ≤ m := by simp at hk hl; omega
          obtain ⟨hk4, hk5, hkk, hkm⟩ := hk3
          have d0 : decide ((a : Int) + (lo : Int) < (k : Int)) = true := by simp; omega
          obtain ⟨f1, f2, f3⟩ := back_form (A ++ L.take lo) P Q C y x
          have t1 := hT'; have t2 := hT'
          rw [f1] at t1; rw [f2] at t2
          have L1 : (A ++ L.take lo).length = a + lo := by rw [List.length_append, HA.out, K1.out]
          have E1 := Lib.hid (show ((A ++ L.take lo) ++ P).length = k - 1 by rw [List.length_append, L1]; exact hk4)
          have E2 := Lib.hid (show ((A ++ L.take lo) ++ (P ++ [y])).length = k by rw [List.length_append, L1]; exact hk)
          obtain ⟨c0, c1, c2⟩ := t1.atM (k := k - 1) E1.out
          obtain ⟨d0, d1, d2⟩ := t2.atM (k := k) E2.out
          have fz := hT'.fr
          have hlt' := hT'.lt.2
          have T2 := Lib.hid t2; have HL := Lib.hid hl; have F3 := Lib.hid f3; have HK4 := Lib.hid hk4; clear hT' t1 t2 f1 f2 f3 hk hl L1 hk4
          have z1 : ((k : Int) - 1).toNat = k - 1 := by omega
          have w1' : IntKind.i64.wrap ((k : Int) - 1) = (k : Int) - 1 := IntWalk.i64_in _ (by omega)
          have b1 : (1 : Int) ≤ (k : Int) := by omega
          have b1' : (0 : Int) ≤ (k : Int) - 1 := by omega
          have b6 : (k : Int) < (n : Int) + 1 := by omega
          have b2 : (k : Int) - 1 < (n : Int) := by omega
          have b3 : (k : Int) < (n : Int) := by omega
          have b7 : ¬ ((k : Int) - 1 < 0) := by omega
          have b8 : ¬ ((n : Int) ≤ (k : Int) - 1) := by omega
          go_wp2_with fail
          refine wp_region_ordG [(0, 1), (1, 1), (2, 1), (3, 1), (4, 1), (5, 1), (6, 1), (7, 1), (8, 1), (9, 2), (10, 1), (11, 1), (12, 1), (13, 2), (14, 1), (15, 0), (16, 1), (17, 0)] [15, 17] (some g) (by kernel_rfl) (by kernel_rfl) ?_
          (repeat ((first | with_reducible refine wpOrdG_soft (fun K hK => ?_) | with_reducible refine wpOrdG_pre (fun K hK => ?_)); simp only [List.getElem?_toArray, List.getElem?_cons_zero, List.getElem?_cons_succ]; first | (go_simp; refine hK _ ?_) | (simp only [undef]; go_simp; refine hK _ ?_); clear hK K))
          (with_reducible refine wpOrdG_hard ?_; simp only [List.getElem?_toArray, List.getElem?_cons_zero, List.getElem?_cons_succ])
          go_wp2_with fail
          have s1 := T2.out.setM (k := k) E2.out y
          refine ⟨grown_drew2 s1.2, ?_⟩
          have S1 := Lib.hid s1; clear s1
          (repeat ((first | with_reducible refine wpOrdG_soft (fun K hK => ?_) | with_reducible refine wpOrdG_pre (fun K hK => ?_)); simp only [List.getElem?_toArray, List.getElem?_cons_zero, List.getElem?_cons_succ]; first | (go_simp; refine hK _ ?_) | (simp only [undef]; go_simp; refine hK _ ?_); clear hK K))
          (with_reducible refine wpOrdG_hard ?_; simp only [List.getElem?_toArray, List.getElem?_cons_zero, List.getElem?_cons_succ])
          go_wp2_with fail
          have s2 := S1.out.1
          rw [F3.out] at s2
          have s3 := s2.setM (k := k - 1) E1.out x
          have g3 := grown_trans S1.out.2 s3.2
          refine ⟨grown_drew2 g3, ?_⟩
          have T3 := Lib.hid s3.1; have G3 := Lib.hid g3; clear s2 s3 g3
          (with_reducible refine wpOrdG_nil ?_); refine NoPanic.normal ?_
          go_wp2
          go_roundw
          case rel =>
            refine ⟨P, y :: Q, k - 1, by go_num, HK4.out, by have := HL.out; simp at *; omega, by rw [← HE.out]; simp, ?_, grown_trans hg' (grown_drewR G3.out)⟩
            have := T3.out
            rw [List.append_assoc] at this
            exact this.drew
          case measure => simp [intOf] <;> omega

end Go.Proofs.Ythnnjjcopehccaa
