/- Contract of insertionSortCmpFunc at tones. -/
import Derived.Test.YthnnjjcopehccaaSortL
set_option linter.unusedSimpArgs false
set_option linter.unnecessarySimpa false
set_option linter.unusedVariables false
set_option maxRecDepth 100000
namespace Go.Proofs.Ythnnjjcopehccaa
open Go.RowKit

theorem ins_forms (A P S Q C : List Ton) (s x : Ton) :
    A ++ ((P ++ [s]) ++ x :: (S ++ (Q ++ C))) = (A ++ P) ++ s :: (x :: (S ++ (Q ++ C))) ∧ A ++ ((P ++ [s]) ++ x :: (S ++ (Q ++ C))) = (A ++ (P ++ [s])) ++ x :: (S ++ (Q ++ C)) := by simp

theorem ins_len {P P1 P2 : List Ton} {x : Ton} {k m : Nat} (h : P.length = k) (e : P1 ++ P2 = P) (hm : k + 1 ≤ m) : (P1 ++ x :: P2).length = min (k + 1) m := by
  subst e
  simp only [List.length_append, List.length_cons] at *; omega
theorem ins_perm {P P1 P2 Q S : List Ton} {x : Ton} (h : (P ++ x :: Q).Perm S) (e : P1 ++ P2 = P) : ((P1 ++ x :: P2) ++ Q).Perm S := by
  subst e
  refine List.Perm.trans ?_ h
  simp only [List.append_assoc, List.cons_append]
  refine List.Perm.append_left P1 ?_
  exact List.perm_middle.symm
theorem ins_at {w : World} {base g n cap : Nat} {A P Q C : List Ton} {s x : Ton} {S : List Ton} (h : TR w base g n cap ((A ++ (P ++ [s])) ++ x :: (S ++ (Q ++ C)))) : TR w base g n cap (A ++ (((P ++ [s]) ++ x :: S) ++ (Q ++ C))) := by
  have e : (A ++ (P ++ [s])) ++ x :: (S ++ (Q ++ C)) = A ++ (((P ++ [s]) ++ x :: S) ++ (Q ++ C)) := by simp
  rw [← e]; exact h

set_option maxHeartbeats 2000000 in
theorem insS_any (base g n cap a b : Nat) (A S C : List Ton) (w : World) (h : TR w base g n cap (A ++ (S ++ C))) (hn : n ≤ 1000000) (ha : A.length = a) (hb : A.length + S.length = b) :
    Calls Try.prog 29 #[.slice (some ⟨g, 0, none⟩) n cap, .int .i64 a, .int .i64 b, .func (.func 18) #[] #[]] w fun e w' => e = .returned (.tuple #[]) ∧ (∃ S', S'.Perm S ∧ Srt S' ∧ TR w' base g n cap (A ++ (S' ++ C))) ∧ w.grownBy w' (some g) := by
  have hln := h.len
  simp only [List.length_append] at hln
  have hcn : n ≤ cap := by rcases h.2.2 with ⟨e, _⟩ | ⟨g', cap', cur, e, _, _, h1, _⟩ <;> cases e; exact h1
  have hgb := h.lt.1
  have q1 : b ≤ n := by omega
  have q2 : a ≤ b := by omega
  have q3 : S.length = b - a := by omega
  have HA := Lib.hid ha; have HB := Lib.hid hb; have HS := Lib.hid q3
  clear hln ha hb q3
  go_enter Try.func29, Try.ntmps29
  go_wp2_with fail
  go_loopw [8] (fun i wr => ∃ (k : Nat) (P Q : List Ton), i = .int .i64 ((a : Int) + (k : Int)) ∧ 1 ≤ k ∧ a + k ≤ b + 1 ∧ P.length = min k (b - a) ∧ Srt P ∧ (P ++ Q).Perm S ∧ TR wr base g n cap (A ++ (P ++ (Q ++ C))) ∧ w.grownBy wr (some g)) (fun i _ => b + 1 - (intOf i).toNat)
  case atStart =>
    refine ⟨1, S.take 1, S.drop 1, rfl, Nat.le_refl _, by omega, by rw [List.length_take, HS.out], ?_, by rw [List.take_append_drop], by rw [cut2]; exact h, World.grownBy.refl _ _⟩
    rcases S with _ | ⟨s, S⟩
    · exact srt_nil
    · exact srt_one s
  case round =>
    obtain ⟨k, P, Q, rfl, hk, hkb, hP, hs, hp, hT, hg⟩ := hrel
    have hpl := hp.length_eq
    have hsl := HS.out
    simp only [List.length_append] at hpl
    by_cases hlt : a + k < b
    · have hPk : P.length = k := by omega
      have hql : 0 < Q.length := by omega
      rcases Q with _ | ⟨x, Q⟩
      · simp at hql
      have HPk := Lib.hid hPk; have HSr := Lib.hid hs; have HPm := Lib.hid hp; have HT := Lib.hid hT
      obtain ⟨wo, rfl⟩ : ∃ wo : World, wo = wr := ⟨_, rfl⟩
      have hgo : wo.grownBy wo (some g) := World.grownBy.refl _ _
      have dk : decide ((a : Int) + (k : Int) < (b : Int)) = true := by simp; omega
      clear hPk hql hpl hsl hs hp hP
      go_wp2_with fail
      go_loopw [9] (fun j wr => ∃ (P1 P2 : List Ton) (j0 : Nat), j = .int .i64 (j0 : Int) ∧ a + P1.length = j0 ∧ P1 ++ P2 = P ∧ (∀ y ∈ P2, before x y) ∧ TR wr base g n cap (A ++ (P1 ++ x :: (P2 ++ (Q ++ C)))) ∧ w.grownBy wr (some g)) (fun j _ => (intOf j).toNat)
      case atStart => exact ⟨P, [], a + k, by go_num, by rw [HPk.out], by simp, by simp, by simpa using HT.out, hg⟩
      case round =>
        obtain ⟨P1, P2, j, rfl, hj, he, hx, hT', hg'⟩ := hrel
        have hjb : a ≤ j ∧ j < b := by
          have h1 := congrArg List.length he
          rw [List.length_append, HPk.out] at h1
          omega
        obtain ⟨hja, hjb⟩ := hjb
        rcases List.eq_nil_or_concat P1 with rfl | ⟨P1, s, rfl⟩
        · obtain rfl : a = j := by simpa using hj
          have d0 : decide ((a : Int) < (a : Int)) = false := by simp
          have HX := Lib.hid hx; have HE := Lib.hid he; have HT2 := Lib.hid hT'; clear hx he hT' hT
          go_wp2_with fail
          refine wp_region_ordG [(0, 1), (1, 1), (2, 1), (3, 1), (4, 1), (5, 1), (6, 1), (7, 1), (8, 2), (9, 1), (10, 1), (11, 1), (12, 1), (13, 2), (14, 0), (15, 1), (16, 1)] [14] (none) (by kernel_rfl) (by kernel_rfl) ?_
          (repeat ((first | with_reducible refine wpOrdG_soft (fun K hK => ?_) | with_reducible refine wpOrdG_pre (fun K hK => ?_)); simp only [List.getElem?_toArray, List.getElem?_cons_zero, List.getElem?_cons_succ]; first | (go_simp; refine hK _ ?_) | (simp only [undef]; go_simp; refine hK _ ?_); clear hK K))
          (with_reducible refine wpOrdG_hard ?_; simp only [List.getElem?_toArray, List.getElem?_cons_zero, List.getElem?_cons_succ])
          go_wp2_with fail
          refine ⟨World.grownBy.refl _ _, ?_⟩
          (repeat ((first | with_reducible refine wpOrdG_soft (fun K hK => ?_) | with_reducible refine wpOrdG_pre (fun K hK => ?_)); simp only [List.getElem?_toArray, List.getElem?_cons_zero, List.getElem?_cons_succ]; first | (go_simp; refine hK _ ?_) | (simp only [undef]; go_simp; refine hK _ ?_); clear hK K))
          (with_reducible refine wpOrdG_nil ?_); refine NoPanic.normal ?_
          go_wp2
          go_roundw
          case rel =>
            have hsr := HSr.out
            rw [← HE.out] at hsr
            refine ⟨k + 1, [] ++ x :: P2, Q, by go_num, by omega, by omega, ?_, hsr.insert (fun y hy => by cases hy) (fun y hy => leT_of (HX.out y hy)), ?_, by simpa using HT2.out.drew, grown_drewR hg'⟩
            · exact ins_len HPk.out HE.out (by omega)
            · exact ins_perm HPm.out HE.out
          case measure => simp [intOf] <;> omega
        · rw [List.concat_eq_append] at hT' he hj
          have hj1 : a + P1.length = j - 1 ∧ 1 ≤ j ∧ a < j := by simp at hj; omega
          obtain ⟨hj1, hj2, hj3⟩ := hj1
          obtain ⟨f1, f2⟩ := ins_forms A P1 P2 Q C s x
          have t1 := hT'; have t2 := hT'
          rw [f1] at t1; rw [f2] at t2
          obtain ⟨c0, c1, c2⟩ := t1.atM (k := j - 1) (by rw [List.length_append, HA.out]; exact hj1)
          obtain ⟨d0, d1, d2⟩ := t2.atM (k := j) (by rw [List.length_append, HA.out]; exact hj)
          have fz := hT'.fr
          have hlt' := hT'.lt.2
          have HX := Lib.hid hx; have HE := Lib.hid he; have T1 := Lib.hid t1; have T2 := Lib.hid t2; have HJ := Lib.hid hj; have HJ1 := Lib.hid hj1; clear hx he hT' hT t1 t2 f1 f2 hj hj1
          have z1 : ((j : Int) - 1).toNat = j - 1 := by omega
          have w1' : IntKind.i64.wrap ((j : Int) - 1) = (j : Int) - 1 := IntWalk.i64_in _ (by omega)
          have b1 : (1 : Int) ≤ (j : Int) := by omega
          have b1' : (0 : Int) ≤ (j : Int) - 1 := by omega
          have b6 : (j : Int) < (n : Int) + 1 := by omega
          have b7 : ¬ ((j : Int) - 1 < 0) := by omega
          have b8 : ¬ ((n : Int) ≤ (j : Int) - 1) := by omega
          have b2 : (j : Int) - 1 < (n : Int) := by omega
          have b3 : (j : Int) < (n : Int) := by omega
          have b4 : decide ((a : Int) < (j : Int)) = true := by simp; omega
          have b5 : decide (a < j) = true := by simp; omega
          by_cases hb : before x s
          · have hc : decide (cmpT x s < 0) = true := by simpa using (cmpT_neg x s).2 hb
            have HBf := Lib.hid hb; clear hb
            go_wp2_with fail
            refine wp_region_ordG [(0, 1), (1, 1), (2, 1), (3, 1), (4, 1), (5, 1), (6, 1), (7, 1), (8, 2), (9, 1), (10, 1), (11, 1), (12, 1), (13, 2), (14, 0), (15, 1), (16, 1)] [14] (none) (by kernel_rfl) (by kernel_rfl) ?_
            (repeat ((first | with_reducible refine wpOrdG_soft (fun K hK => ?_) | with_reducible refine wpOrdG_pre (fun K hK => ?_)); simp only [List.getElem?_toArray, List.getElem?_cons_zero, List.getElem?_cons_succ]; first | (go_simp; refine hK _ ?_) | (simp only [undef]; go_simp; refine hK _ ?_); clear hK K))
            (with_reducible refine wpOrdG_hard ?_; simp only [List.getElem?_toArray, List.getElem?_cons_zero, List.getElem?_cons_succ])
            go_wp2_with fail
            refine (compareTones_any x s _).mono ?_
            rintro e w1 ⟨rfl, hb1⟩
            go_wp2_with fail
            refine ⟨grown_of_below hb1, ?_⟩
            (repeat ((first | with_reducible refine wpOrdG_soft (fun K hK => ?_) | with_reducible refine wpOrdG_pre (fun K hK => ?_)); simp only [List.getElem?_toArray, List.getElem?_cons_zero, List.getElem?_cons_succ]; first | (go_simp; refine hK _ ?_) | (simp only [undef]; go_simp; refine hK _ ?_); clear hK K))
            (with_reducible refine wpOrdG_nil ?_); refine NoPanic.normal ?_
            have hb2 := undrew hb1
            obtain ⟨e0, e1, e2⟩ := (T1.out.mono hb2).atM (k := j - 1) (by rw [List.length_append, HA.out]; exact HJ1.out)
            have hS2 := T2.out.mono hb2
            obtain ⟨g0, g1, g2⟩ := hS2.atM (k := j) (by rw [List.length_append, HA.out]; exact HJ.out)
            have fz := hS2.fr
            have hlt2 := hS2.lt.2
            have G2 := Lib.hid (grown_trans hg' (grown_row' hb2)); have S2 := Lib.hid hS2
            clear c0 c1 c2 d0 d1 d2 hb1 hb2 hS2 hg' hlt'
            go_wp2_with fail
            refine wp_region_ordG [(0, 1), (1, 1), (2, 1), (3, 1), (4, 1), (5, 1), (6, 1), (7, 1), (8, 1), (9, 2), (10, 1), (11, 1), (12, 1), (13, 2), (14, 1), (15, 0), (16, 1), (17, 0)] [15, 17] (some g) (by kernel_rfl) (by kernel_rfl) ?_
            (repeat ((first | with_reducible refine wpOrdG_soft (fun K hK => ?_) | with_reducible refine wpOrdG_pre (fun K hK => ?_)); simp only [List.getElem?_toArray, List.getElem?_cons_zero, List.getElem?_cons_succ]; first | (go_simp; refine hK _ ?_) | (simp only [undef]; go_simp; refine hK _ ?_); clear hK K))
            (with_reducible refine wpOrdG_hard ?_; simp only [List.getElem?_toArray, List.getElem?_cons_zero, List.getElem?_cons_succ])
            go_wp2_with fail
            have s1 := S2.out.setM (k := j) (by rw [List.length_append, HA.out]; exact HJ.out) s
            refine ⟨grown_drew2 s1.2, ?_⟩
            have S1 := Lib.hid s1; clear s1
            (repeat ((first | with_reducible refine wpOrdG_soft (fun K hK => ?_) | with_reducible refine wpOrdG_pre (fun K hK => ?_)); simp only [List.getElem?_toArray, List.getElem?_cons_zero, List.getElem?_cons_succ]; first | (go_simp; refine hK _ ?_) | (simp only [undef]; go_simp; refine hK _ ?_); clear hK K))
            (with_reducible refine wpOrdG_hard ?_; simp only [List.getElem?_toArray, List.getElem?_cons_zero, List.getElem?_cons_succ])
            go_wp2_with fail
            have s2 := S1.out.1
            rw [show (A ++ (P1 ++ [s])) ++ s :: (P2 ++ (Q ++ C)) = (A ++ P1) ++ s :: (s :: (P2 ++ (Q ++ C))) by simp] at s2
            have s3 := s2.setM (k := j - 1) (by rw [List.length_append, HA.out]; exact HJ1.out) x
            have g3 := grown_trans S1.out.2 s3.2
            refine ⟨grown_drew2 g3, ?_⟩
            have T3 := Lib.hid s3.1; have G3 := Lib.hid g3; clear s2 s3 g3
            (with_reducible refine wpOrdG_nil ?_); refine NoPanic.normal ?_
            go_wp2
            go_roundw
            case rel =>
              refine ⟨P1, s :: P2, j - 1, by go_num, HJ1.out, by rw [← HE.out]; simp, ?_, by have := T3.out; rw [List.append_assoc] at this; exact this.drew, grown_trans G2.out (grown_drewR G3.out)⟩
              intro y hy
              rcases List.mem_cons.1 hy with rfl | hy
              · exact HBf.out
              · exact HX.out y hy
            case measure => simp [intOf] <;> omega
          · have hc : decide (cmpT x s < 0) = false := by have : ¬ cmpT x s < 0 := fun h => hb ((cmpT_neg x s).1 h); simp; omega
            have HBf := Lib.hid hb; clear hb
            go_wp2_with fail
            refine wp_region_ordG [(0, 1), (1, 1), (2, 1), (3, 1), (4, 1), (5, 1), (6, 1), (7, 1), (8, 2), (9, 1), (10, 1), (11, 1), (12, 1), (13, 2), (14, 0), (15, 1), (16, 1)] [14] (none) (by kernel_rfl) (by kernel_rfl) ?_
            (repeat ((first | with_reducible refine wpOrdG_soft (fun K hK => ?_) | with_reducible refine wpOrdG_pre (fun K hK => ?_)); simp only [List.getElem?_toArray, List.getElem?_cons_zero, List.getElem?_cons_succ]; first | (go_simp; refine hK _ ?_) | (simp only [undef]; go_simp; refine hK _ ?_); clear hK K))
            (with_reducible refine wpOrdG_hard ?_; simp only [List.getElem?_toArray, List.getElem?_cons_zero, List.getElem?_cons_succ])
            go_wp2_with fail
            refine (compareTones_any x s _).mono ?_
            rintro e w1 ⟨rfl, hb1⟩
            go_wp2_with fail
            refine ⟨grown_of_below hb1, ?_⟩
            (repeat ((first | with_reducible refine wpOrdG_soft (fun K hK => ?_) | with_reducible refine wpOrdG_pre (fun K hK => ?_)); simp only [List.getElem?_toArray, List.getElem?_cons_zero, List.getElem?_cons_succ]; first | (go_simp; refine hK _ ?_) | (simp only [undef]; go_simp; refine hK _ ?_); clear hK K))
            (with_reducible refine wpOrdG_nil ?_); refine NoPanic.normal ?_
            have hb2 := undrew hb1
            go_wp2
            go_roundw
            case rel =>
              have hsr := HSr.out
              rw [← HE.out] at hsr
              refine ⟨k + 1, (P1 ++ [s]) ++ x :: P2, Q, by go_num, by omega, by omega, ?_, hsr.insert (hsr.left.all_le HBf.out) (fun y hy => leT_of (HX.out y hy)), ?_, ?_, grown_trans hg' (grown_row' hb2)⟩
              · exact ins_len HPk.out HE.out (by omega)
              · exact ins_perm HPm.out HE.out
              · exact ins_at (T2.out.mono hb2)
            case measure => simp [intOf] <;> omega
    · have hql : Q.length = 0 := by omega
      obtain rfl := List.eq_nil_of_length_eq_zero hql
      have HSr := Lib.hid hs; have HPm := Lib.hid hp; clear hs hp
      go_wp2
      go_end0
      exact ⟨rfl, ⟨P, by simpa using HPm.out, HSr.out, by simpa using hT⟩, hg⟩

end Go.Proofs.Ythnnjjcopehccaa
