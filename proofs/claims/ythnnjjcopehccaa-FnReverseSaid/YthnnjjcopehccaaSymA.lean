/- symMergeCmpFunc at tones, where the left part is one tone. -/
import Derived.Test.YthnnjjcopehccaaInsS
set_option linter.unusedSimpArgs false
set_option linter.unnecessarySimpa false
set_option linter.unusedVariables false
set_option maxRecDepth 100000
namespace Go.Proofs.Ythnnjjcopehccaa
open Go.RowKit

theorem formR (A R C : List Ton) (x : Ton) (k : Nat) (hk : k < R.length) : A ++ (x :: (R ++ C)) = (A ++ x :: R.take k) ++ R[k] :: (R.drop (k + 1) ++ C) := by
  have e : R ++ C = R.take k ++ (R[k] :: (R.drop (k + 1) ++ C)) := by
    conv => lhs; rw [← List.take_append_drop k R, List.drop_eq_getElem_cons hk]
    simp only [List.append_assoc, List.cons_append]
  rw [e]; simp only [List.append_assoc, List.cons_append]
theorem srt_at {R : List Ton} (h : Srt R) {i j : Nat} (hij : i ≤ j) (hj : j < R.length) : leT (R[i]'(by omega)) R[j] := by
  rcases Nat.lt_or_eq_of_le hij with h1 | rfl
  · exact List.pairwise_iff_getElem.1 h i j (by omega) hj h1
  · exact leT_refl _
theorem tk_all {R : List Ton} {Q : Ton → Prop} {m : Nat} (h : ∀ k (hk : k < R.length), k < m → Q R[k]) : ∀ y ∈ R.take m, Q y := by
  intro y hy
  obtain ⟨k, hk, rfl⟩ := List.getElem_of_mem hy
  rw [List.length_take] at hk
  rw [List.getElem_take]
  exact h k (by omega) (by omega)
theorem dr_all {R : List Ton} {Q : Ton → Prop} {m : Nat} (h : ∀ k (hk : k < R.length), m ≤ k → Q R[k]) : ∀ y ∈ R.drop m, Q y := by
  intro y hy
  obtain ⟨k, hk, rfl⟩ := List.getElem_of_mem hy
  rw [List.length_drop] at hk
  rw [List.getElem_drop]
  exact h (m + k) (by omega) (by omega)
theorem mid_bd {lo hi : Nat} (h : lo < hi) : lo ≤ (lo + hi) / 2 ∧ (lo + hi) / 2 < hi := by omega
theorem move_form (A P Q C : List Ton) (x y : Ton) : A ++ (P ++ x :: (y :: Q ++ C)) = (A ++ P) ++ x :: (y :: (Q ++ C)) ∧ A ++ (P ++ x :: (y :: Q ++ C)) = (A ++ (P ++ [x])) ++ y :: (Q ++ C) ∧ (A ++ P) ++ y :: (x :: (Q ++ C)) = A ++ ((P ++ [y]) ++ x :: (Q ++ C)) := by simp

set_option maxHeartbeats 2000000 in
theorem symA_any (base g n cap a m b : Nat) (A R C : List Ton) (x : Ton) (w : World) (h : TR w base g n cap (A ++ (x :: (R ++ C)))) (hn : n ≤ 1000000) (ha : A.length = a) (hm : a + 1 = m) (hb : m + R.length = b) (hR : Srt R) :
    Calls Try.prog 30 #[.slice (some ⟨g, 0, none⟩) n cap, .int .i64 a, .int .i64 m, .int .i64 b, .func (.func 18) #[] #[]] w fun e w' => e = .returned (.tuple #[]) ∧ (∃ S', S'.Perm (x :: R) ∧ Srt S' ∧ TR w' base g n cap (A ++ (S' ++ C))) ∧ w.grownBy w' (some g) := by
  have hln := h.len
  simp only [List.length_append, List.length_cons] at hln
  have hcn : n ≤ cap := by rcases h.2.2 with ⟨e, _⟩ | ⟨g', cap', cur, e, _, _, h1, _⟩ <;> cases e; exact h1
  have hgb := h.lt.1
  have q1 : b ≤ n := by omega
  have q2 : m ≤ b := by omega
  have q3 : R.length = b - m := by omega
  have HA := Lib.hid ha; have HB := Lib.hid hb; have HS := Lib.hid q3; have HR := Lib.hid hR
  have e0 : (m : Int) - (a : Int) = 1 := by omega
  have am : a < m := by omega
  have E0 := Lib.hid hm
  have dm : decide ((m : Int) - (a : Int) = 1) = true := by simp; omega
  have dm2 : (((m : Int) - (a : Int)) == 1) = true := by simp; omega
  clear hln ha hb q3 hR hm e0
  go_enter Try.func30, Try.ntmps30
  go_wp2_with fail
  go_loopw [10, 11] (fun i j wr => ∃ (lo hi : Nat), i = .int .i64 ((m : Int) + (lo : Int)) ∧ j = .int .i64 ((m : Int) + (hi : Int)) ∧ lo ≤ hi ∧ hi ≤ b - m ∧ (∀ k (hk : k < R.length), k < lo → before R[k] x) ∧ (∀ k (hk : k < R.length), hi ≤ k → leT x R[k]) ∧ TR wr base g n cap (A ++ (x :: (R ++ C))) ∧ w.grownBy wr (some g)) (fun i j _ => (intOf j - intOf i).toNat)
  case atStart => exact ⟨0, b - m, by go_num, by go_num, by omega, Nat.le_refl _, by omega, (fun k hk h => absurd hk (by rw [HS.out]; omega)), h, World.grownBy.refl _ _⟩
  case round =>
    obtain ⟨lo, hi, rfl, rfl, hlh, hhb, h1, h2, hT, hg⟩ := hrel
    by_cases hlt : lo < hi
    · obtain ⟨q, hq⟩ : ∃ q : Nat, q = (lo + hi) / 2 := ⟨_, rfl⟩
      obtain ⟨hq1, hq2⟩ := mid_bd hlt
      rw [← hq] at hq1 hq2
      have EQ := Lib.hid (show ((m : Int) + (lo : Int) + ((m : Int) + (hi : Int))) / 2 = (m : Int) + (q : Int) by omega)
      clear hq
      have hqr : q < R.length := by rw [HS.out]; omega
      obtain ⟨c0, c1, c2⟩ := hT.atM (k := a) HA.out
      have hT2 := hT
      rw [formR A R C x q hqr] at hT2
      obtain ⟨d0, d1, d2⟩ := hT2.atM (k := m + q) (by rw [List.length_append, List.length_cons, List.length_take, HA.out]; have := E0.out; omega)
      have hlt' := hT.lt.2
      have z2 : ((m : Int) + (q : Int)).toNat = m + q := by omega
      have b1 : (0 : Int) ≤ (m : Int) + (q : Int) := by omega
      have b2 : (m : Int) + (q : Int) < (n : Int) := by omega
      have b3 : (a : Int) < (n : Int) := by omega
      have HT := Lib.hid hT; have H1 := Lib.hid h1; have H2 := Lib.hid h2; clear hT2 hT h1 h2
      by_cases hbx : before R[q] x
      · have hc : decide (cmpT R[q] x < 0) = true := by simpa using (cmpT_neg _ x).2 hbx
        have HBf := Lib.hid hbx; clear hbx
        go_wp2_with fail
        simp only [EQ.out]
        refine wp_region_ordG [(0, 1), (1, 1), (2, 1), (3, 1), (4, 2), (5, 1), (6, 1), (7, 1), (8, 2), (9, 0), (10, 1)] [9] (none) (by kernel_rfl) (by kernel_rfl) ?_
        (repeat ((first | with_reducible refine wpOrdG_soft (fun K hK => ?_) | with_reducible refine wpOrdG_pre (fun K hK => ?_)); simp only [List.getElem?_toArray, List.getElem?_cons_zero, List.getElem?_cons_succ]; first | (go_simp; refine hK _ ?_) | (simp only [undef]; go_simp; refine hK _ ?_); clear hK K))
        (with_reducible refine wpOrdG_hard ?_; simp only [List.getElem?_toArray, List.getElem?_cons_zero, List.getElem?_cons_succ])
        go_wp2_with fail
        refine (compareTones_any R[q] x _).mono ?_
        rintro e w1 ⟨rfl, hb1⟩
        go_wp2_with fail
        refine ⟨grown_of_below hb1, ?_⟩
        (repeat ((first | with_reducible refine wpOrdG_soft (fun K hK => ?_) | with_reducible refine wpOrdG_pre (fun K hK => ?_)); simp only [List.getElem?_toArray, List.getElem?_cons_zero, List.getElem?_cons_succ]; first | (go_simp; refine hK _ ?_) | (simp only [undef]; go_simp; refine hK _ ?_); clear hK K))
        (with_reducible refine wpOrdG_nil ?_); refine NoPanic.normal ?_
        have hb2 := undrew hb1
        go_wp2
        go_roundw
        case rel =>
          refine ⟨q + 1, hi, by go_num, rfl, by omega, hhb, fun k hk hkq => before_le' (srt_at HR.out (by omega) hqr) HBf.out, H2.out, HT.out.mono hb2, grown_trans hg (grown_row' hb2)⟩
        case measure => simp [intOf] <;> omega
      · have hc : decide (cmpT R[q] x < 0) = false := by have : ¬ cmpT R[q] x < 0 := fun h => hbx ((cmpT_neg _ x).1 h); simp; omega
        have HBf := Lib.hid hbx; clear hbx
        go_wp2_with fail
        simp only [EQ.out]
        refine wp_region_ordG [(0, 1), (1, 1), (2, 1), (3, 1), (4, 2), (5, 1), (6, 1), (7, 1), (8, 2), (9, 0), (10, 1)] [9] (none) (by kernel_rfl) (by kernel_rfl) ?_
        (repeat ((first | with_reducible refine wpOrdG_soft (fun K hK => ?_) | with_reducible refine wpOrdG_pre (fun K hK => ?_)); simp only [List.getElem?_toArray, List.getElem?_cons_zero, List.getElem?_cons_succ]; first | (go_simp; refine hK _ ?_) | (simp only [undef]; go_simp; refine hK _ ?_); clear hK K))
        (with_reducible refine wpOrdG_hard ?_; simp only [List.getElem?_toArray, List.getElem?_cons_zero, List.getElem?_cons_succ])
        go_wp2_with fail
        refine (compareTones_any R[q] x _).mono ?_
        rintro e w1 ⟨rfl, hb1⟩
        go_wp2_with fail
        refine ⟨grown_of_below hb1, ?_⟩
        (repeat ((first | with_reducible refine wpOrdG_soft (fun K hK => ?_) | with_reducible refine wpOrdG_pre (fun K hK => ?_)); simp only [List.getElem?_toArray, List.getElem?_cons_zero, List.getElem?_cons_succ]; first | (go_simp; refine hK _ ?_) | (simp only [undef]; go_simp; refine hK _ ?_); clear hK K))
        (with_reducible refine wpOrdG_nil ?_); refine NoPanic.normal ?_
        have hb2 := undrew hb1
        go_wp2
        go_roundw
        case rel =>
          refine ⟨lo, q, rfl, rfl, by omega, by omega, H1.out, fun k hk hkq => leT_trans HBf.out (srt_at HR.out hkq hk), HT.out.mono hb2, grown_trans hg (grown_row' hb2)⟩
        case measure => simp [intOf] <;> omega
    · obtain rfl : lo = hi := by omega
      have HP1 := Lib.hid (tk_all (Q := fun y => before y x) h1)
      have HP2 := Lib.hid (dr_all (Q := fun y => leT x y) h2)
      have k1 : (R.take lo).length = lo := by rw [List.length_take, HS.out]; omega
      have K1 := Lib.hid k1
      have hT0 : TR wr base g n cap (A ++ ([] ++ x :: (R.take lo ++ (R.drop lo ++ C)))) := by rw [List.nil_append, ← List.append_assoc (R.take lo), List.take_append_drop]; exact hT
      have HT := Lib.hid hT0
      obtain ⟨wo, rfl⟩ : ∃ wo : World, wo = wr := ⟨_, rfl⟩
      have hgo : wo.grownBy wo (some g) := World.grownBy.refl _ _
      clear h1 h2 hT hT0 k1
      go_wp2_with fail
      go_loopw [13] (fun k wr => ∃ (P Q : List Ton) (k0 : Nat), k = .int .i64 (k0 : Int) ∧ a + P.length = k0 ∧ P.length + Q.length = lo ∧ P ++ Q = R.take lo ∧ TR wr base g n cap (A ++ (P ++ x :: (Q ++ (R.drop lo ++ C)))) ∧ w.grownBy wr (some g)) (fun k _ => b + 1 - (intOf k).toNat)
      case atStart => exact ⟨[], R.take lo, a, rfl, rfl, by simpa using K1.out, rfl, HT.out, hg⟩
      case round =>
        obtain ⟨P, Q, k, rfl, hk, hl, he, hT', hg'⟩ := hrel
        have hm := E0.out
        have HE := Lib.hid he; clear he
        rcases Q with _ | ⟨y, Q⟩
        · have hkk : k = a + lo := by simp at hl; omega
          have d0 : decide ((k : Int) < (m : Int) + (lo : Int) - 1) = false := by simp; omega
          have HT' := Lib.hid hT'; clear hT' hl hk
          go_wp2
          ((try simp only [Exit.inBlock, Exit.then]); refine bodyPost_ret (results_none rfl _ _ _) rfl ?_)
          have e1 : P = R.take lo := by have := HE.out; simpa using this
          subst e1
          exact ⟨rfl, ⟨R.take lo ++ x :: R.drop lo, List.perm_middle.trans (by rw [List.take_append_drop]), Srt.insert (by rw [List.take_append_drop]; exact HR.out) (fun y hy => leT_of (HP1.out y hy)) HP2.out, by have := HT'.out; simpa using this⟩, hg'⟩
        · have hkk : k < a + lo := by simp at hl; omega
          have d0 : decide ((k : Int) < (m : Int) + (lo : Int) - 1) = true := by simp; omega
          obtain ⟨f1, f2, f3⟩ := move_form A P Q (R.drop lo ++ C) x y
          have t1 := hT'; have t2 := hT'
          rw [f1] at t1; rw [f2] at t2
          obtain ⟨c0, c1, c2⟩ := t1.atM (k := k) (by rw [List.length_append, HA.out]; exact hk)
          obtain ⟨d0, d1, d2⟩ := t2.atM (k := k + 1) (by simp only [List.length_append, List.length_cons, List.length_nil, HA.out]; omega)
          have fz := hT'.fr
          have hlt' := hT'.lt.2
          have T1 := Lib.hid t1; have HK := Lib.hid hk; have HL := Lib.hid hl; have F3 := Lib.hid f3; clear hT' t1 t2 f1 f2 f3 hk hl
          have z1 : ((k : Int) + 1).toNat = k + 1 := by omega
          have w1' : IntKind.i64.wrap ((k : Int) + 1) = (k : Int) + 1 := IntWalk.i64_in _ (by omega)
          have b2 : (k : Int) + 1 < (n : Int) := by omega
          have b3 : (k : Int) < (n : Int) := by omega
          have b4 : (0 : Int) ≤ (k : Int) + 1 := by omega
          go_wp2_with fail
          refine wp_region_ordG [(0, 1), (1, 1), (2, 1), (3, 1), (4, 1), (5, 1), (6, 1), (7, 1), (8, 1), (9, 2), (10, 1), (11, 1), (12, 1), (13, 2), (14, 1), (15, 0), (16, 1), (17, 0)] [15, 17] (some g) (by kernel_rfl) (by kernel_rfl) ?_
          (repeat ((first | with_reducible refine wpOrdG_soft (fun K hK => ?_) | with_reducible refine wpOrdG_pre (fun K hK => ?_)); simp only [List.getElem?_toArray, List.getElem?_cons_zero, List.getElem?_cons_succ]; first | (go_simp; refine hK _ ?_) | (simp only [undef]; go_simp; refine hK _ ?_); clear hK K))
          (with_reducible refine wpOrdG_hard ?_; simp only [List.getElem?_toArray, List.getElem?_cons_zero, List.getElem?_cons_succ])
          go_wp2_with fail
          have s1 := T1.out.setM (k := k) (by rw [List.length_append, HA.out]; exact HK.out) y
          refine ⟨grown_drew2 s1.2, ?_⟩
          have S1 := Lib.hid s1; clear s1
          (repeat ((first | with_reducible refine wpOrdG_soft (fun K hK => ?_) | with_reducible refine wpOrdG_pre (fun K hK => ?_)); simp only [List.getElem?_toArray, List.getElem?_cons_zero, List.getElem?_cons_succ]; first | (go_simp; refine hK _ ?_) | (simp only [undef]; go_simp; refine hK _ ?_); clear hK K))
          (with_reducible refine wpOrdG_hard ?_; simp only [List.getElem?_toArray, List.getElem?_cons_zero, List.getElem?_cons_succ])
          go_wp2_with fail
          have s2 := S1.out.1
          rw [show (A ++ P) ++ y :: (y :: (Q ++ (R.drop lo ++ C))) = (A ++ (P ++ [y])) ++ y :: (Q ++ (R.drop lo ++ C)) by simp] at s2
          have s3 := s2.setM (k := k + 1) (by simp only [List.length_append, List.length_cons, List.length_nil, HA.out]; have := HK.out; omega) x
          have g3 := grown_trans S1.out.2 s3.2
          refine ⟨grown_drew2 g3, ?_⟩
          have T3 := Lib.hid s3.1; have G3 := Lib.hid g3; clear s2 s3 g3
          (with_reducible refine wpOrdG_nil ?_); refine NoPanic.normal ?_
          go_wp2
          go_roundw
          case rel =>
            refine ⟨P ++ [y], Q, k + 1, by go_num, by simp; have := HK.out; omega, by have := HL.out; simp at *; omega, by rw [← HE.out]; simp, ?_, grown_trans hg' (grown_drewR G3.out)⟩
            have := T3.out
            rw [List.append_assoc] at this
            exact this.drew
          case measure => simp [intOf] <;> omega
end Go.Proofs.Ythnnjjcopehccaa
