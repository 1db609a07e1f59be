import Derived.Test.YtemmnjokojgjaaaFfZ4
/- Contract of insertionSortCmpFunc at tones. -/
set_option linter.unusedSimpArgs false
set_option linter.unnecessarySimpa false
set_option linter.unusedVariables false
set_option maxRecDepth 100000
namespace Go.Proofs.Ytemmnjokojgjaaa
open Go.RowKit

theorem ins_forms (A P S Q C : List Ton) (s x : Ton) :
    A ++ ((P ++ [s]) ++ x :: (S ++ (Q ++ C))) = (A ++ P) ++ s :: (x :: (S ++ (Q ++ C))) ∧ A ++ ((P ++ [s]) ++ x :: (S ++ (Q ++ C))) = (A ++ (P ++ [s])) ++ x :: (S ++ (Q ++ C)) := by simp

theorem ins_len {P P1 P2 : List Ton} {x : Ton} {k m : Nat} (h : P.length = k) (e : P1 ++ P2 = P) (hm : k + 1 ≤ m) : (P1 ++ x :: P2).length = min (k + 1) m := by
  subst e
  simp only [List.length_append, List.length_cons] at *; omega
theorem ins_perm {P P1 P2 Q S : List Ton} {x : Ton} (h : (P ++ x :: Q).Perm S) (e : P1 ++ P2 = P) : ((P1 ++ x :: P2) ++ Q).Perm S := by
  subst e
  refine List.Perm.trans ?_ h
  simp only [List.append_assoc, List.cons_append]
  refine List.Perm.append_left P1 ?_
  exact List.perm_middle.symm
theorem ins_at {w : World} {base g n cap : Nat} {A P Q C : List Ton} {s x : Ton} {S : List Ton} (h : TR w base g n cap ((A ++ (P ++ [s])) ++ x :: (S ++ (Q ++ C)))) : TR w base g n cap (A ++ (((P ++ [s]) ++ x :: S) ++ (Q ++ C))) := by
  have e : (A ++ (P ++ [s])) ++ x :: (S ++ (Q ++ C)) = A ++ (((P ++ [s]) ++ x :: S) ++ (Q ++ C)) := by simp
  rw [← e]; exact h

set_option maxHeartbeats 2000000 in
theorem insS_any (base g n cap a b : Nat) (A S C : List Ton) (w : World) (h : TR w base g n cap (A ++ (S ++ C))) (hn : n ≤ 1000000) (ha : A.length = a) (hb : A.length + S.length = b) :
    Calls Try.prog 118 #[.slice (some ⟨g, 0, none⟩) n cap, .int .i64 a, .int .i64 b, .func (.func 102) #[] #[]] w fun e w' => e = .returned (.tuple #[]) ∧ (∃ S', S'.Perm S ∧ Srt S' ∧ TR w' base g n cap (A ++ (S' ++ C))) ∧ w.grownBy w' (some g) := by
  have hln := h.len
  simp only [List.length_append] at hln
  have hcn : n ≤ cap := by rcases h.2.2 with ⟨e, _⟩ | ⟨g', cap', cur, e, _, _, h1, _⟩ <;> cases e; exact h1
  have hgb := h.lt.1
  have q1 : b ≤ n := by omega
  have q2 : a ≤ b := by omega
  have q3 : S.length = b - a := by omega
  have HA := Lib.hid ha; have HB := Lib.hid hb; have HS := Lib.hid q3
  clear hln ha hb q3
  go_enter Try.func118, Try.ntmps118
  go_wp2_with fail
  go_loopw [8] (fun i wr => ∃ (k : Nat) (P Q : List Ton), i = .int .i64 ((a : Int) + (k : Int)) ∧ 1 ≤ k ∧ a + k ≤ b + 1 ∧ P.length = min k (b - a) ∧ Srt P ∧ (P ++ Q).Perm S ∧ TR wr base g n cap (A ++ (P ++ (Q ++ C))) ∧ w.grownBy wr (some g)) (fun i _ => b + 1 - (intOf i).toNat)
  case atStart =>
    refine ⟨1, S.take 1, S.drop 1, rfl, Nat.le_refl _, by omega, by rw [List.length_take, HS.out], ?_, by rw [List.take_append_drop], by rw [cut2]; exact h, World.grownBy.refl _ _⟩
    rcases S with _ | ⟨s, S⟩
    · exact srt_nil
    · exact srt_one s
  case round =>
    obtain ⟨k, P, Q, rfl, hk, hkb, hP, hs, hp, hT, hg⟩ := hrel
    have hpl := hp.length_eq
    have hsl := HS.out
    simp only [List.length_append] at hpl
    by_cases hlt : a + k < b
    · have hPk : P.length = k := by omega
      have hql : 0 < Q.length := by omega
      rcases Q with _ | ⟨x, Q⟩
      · simp at hql
      have HPk := Lib.hid hPk; have HSr := Lib.hid hs; have HPm := Lib.hid hp; have HT := Lib.hid hT
      obtain ⟨wo, rfl⟩ : ∃ wo : World, wo = wr := ⟨_, rfl⟩
      have hgo : wo.grownBy wo (some g) := World.grownBy.refl _ _
      have dk : decide ((a : Int) + (k : Int) < (b : Int)) = true := by simp; omega
      clear hPk hql hpl hsl hs hp hP
      go_wp2_with fail
      go_loopw [9] (fun j wr => ∃ (P1 P2 : List Ton) (j0 : Nat), j = .int .i64 (j0 : Int) ∧ a + P1.length = j0 ∧ P1 ++ P2 = P ∧ (∀ y ∈ P2, before x y) ∧ TR wr base g n cap (A ++ (P1 ++ x :: (P2 ++ (Q ++ C)))) ∧ w.grownBy wr (some g)) (fun j _ => (intOf j).toNat)
      case atStart => exact ⟨P, [], a + k, by go_num, by rw [HPk.out], by simp, by simp, by simpa using HT.out, hg⟩
      case round =>
        obtain ⟨P1, P2, j, rfl, hj, he, hx, hT', hg'⟩ := hrel
        have hjb : a ≤ j ∧ j < b := by
          have h1 := congrArg List.length he
          rw [List.length_append, HPk.out] at h1
          omega
        obtain ⟨hja, hjb⟩ := hjb
        rcases List.eq_nil_or_concat P1 with rfl | ⟨P1, s, rfl⟩
        · obtain rfl : a = j := by simpa using hj
          have d0 : decide ((a : Int) < (a : Int)) = false := by simp
          have HX := Lib.hid hx; have HE := Lib.hid he; have HT2 := Lib.hid hT'; clear hx he hT' hT
          go_wp2_with fail
          refine wp_region_ordG [(0, 1), (1, 1), (2, 1), (3, 1), (4, 1), (5, 1), (6, 1), (7, 1), (8, 2), (9, 1), (10, 1), (11, 1), (12, 1), (13, 2), (14, 0), (15, 1), (16, 1)] [14] (none) (by kernel_rfl) (by kernel_rfl) ?_
          (repeat ((first | with_reducible refine wpOrdG_soft (fun K hK => ?_) | with_reducible refine wpOrdG_pre (fun K hK => ?_)); simp only [List.getElem?_toArray, List.getElem?_cons_zero, List.getElem?_cons_succ]; first | (go_simp; refine hK _ ?_) | (simp only [undef]; go_simp; refine hK _ ?_); clear hK K))
          (with_reducible refine wpOrdG_hard ?_; simp only [List.getElem?_toArray, List.getElem?_cons_zero, List.getElem?_cons_succ])
          go_wp2_with fail
          refine ⟨World.grownBy.refl _ _, ?_⟩
          (repeat ((first | with_reducible refine wpOrdG_soft (fun K hK => ?_) | with_reducible refine wpOrdG_pre (fun K hK => ?_)); simp only [List.getElem?_toArray, List.getElem?_cons_zero, List.getElem?_cons_succ]; first | (go_simp; refine hK _ ?_) | (simp only [undef]; go_simp; refine hK _ ?_); clear hK K))
          (with_reducible refine wpOrdG_nil ?_); refine NoPanic.normal ?_
          go_wp2
          go_roundw
          case rel =>
            have hsr := HSr.out
            rw [← HE.out] at hsr
            refine ⟨k + 1, [] ++ x :: P2, Q, by go_num, by omega, by omega, ?_, hsr.insert (fun y hy => by cases hy) (fun y hy => leT_of (HX.out y hy)), ?_, by simpa using HT2.out.drew, grown_drewR hg'⟩
            · exact ins_len HPk.out HE.out (by omega)
            · exact ins_perm HPm.out HE.out
          case measure => simp [intOf] <;> omega
        · rw [List.concat_eq_append] at hT' he hj
          have hj1 : a + P1.length = j - 1 ∧ 1 ≤ j ∧ a < j := by simp at hj; omega
          obtain ⟨hj1, hj2, hj3⟩ := hj1
          obtain ⟨f1, f2⟩ := ins_forms A P1 P2 Q C s x
          have t1 := hT'; have t2 := hT'
          rw [f1] at t1; rw [f2] at t2
          obtain ⟨c0, c1, c2⟩ := t1.atM (k := j - 1) (by rw [List.length_append, HA.out]; exact hj1)
          obtain ⟨d0, d1, d2⟩ := t2.atM (k := j) (by rw [List.length_append, HA.out]; exact hj)
          have fz := hT'.fr
          have hlt' := hT'.lt.2
          have HX := Lib.hid hx; have HE := Lib.hid he; have T1 := Lib.hid t1; have T2 := Lib.hid t2; have HJ := Lib.hid hj; have HJ1 := Lib.hid hj1; clear hx he hT' hT t1 t2 f1 f2 hj hj1
          have z1 : ((j : Int) - 1).toNat = j - 1 := by omega
          have w1' : IntKind.i64.wrap ((j : Int) - 1) = (j : Int) - 1 := IntWalk.i64_in _ (by omega)
          have b1 : (1 : Int) ≤ (j : Int) := by omega
          have b1' : (0 : Int) ≤ (j : Int) - 1 := by omega
          have b6 : (j : Int) < (n : Int) + 1 := by omega
          have b7 : ¬ ((j : Int) - 1 < 0) := by omega
          have b8 : ¬ ((n : Int) ≤ (j : Int) - 1) := by omega
          have b2 : (j : Int) - 1 < (n : Int) := by omega
          have b3 : (j : Int) < (n : Int) := by omega
          have b4 : decide ((a : Int) < (j : Int)) = true := by simp; omega
          have b5 : decide (a < j) = true := by simp; omega
          by_cases hb : before x s
          · have hc : decide (cmpT x s < 0) = true := by simpa using (cmpT_neg x s).2 hb
            have HBf := Lib.hid hb; clear hb
            go_wp2_with fail
            refine wp_region_ordG [(0, 1), (1, 1), (2, 1), (3, 1), (4, 1), (5, 1), (6, 1), (7, 1), (8, 2), (9, 1), (10, 1), (11, 1), (12, 1), (13, 2), (14, 0), (15, 1), (16, 1)] [14] (none) (by kernel_rfl) (by kernel_rfl) ?_
            (repeat ((first | with_reducible refine wpOrdG_soft (fun K hK => ?_) | with_reducible refine wpOrdG_pre (fun K hK => ?_)); simp only [List.getElem?_toArray, List.getElem?_cons_zero, List.getElem?_cons_succ]; first | (go_simp; refine hK _ ?_) | (simp only [undef]; go_simp; refine hK _ ?_); clear hK K))
            (with_reducible refine wpOrdG_hard ?_; simp only [List.getElem?_toArray, List.getElem?_cons_zero, List.getElem?_cons_succ])
            go_wp2_with fail
            refine (compareTones_any x s _).mono ?_
            rintro e w1 ⟨rfl, hb1⟩
            go_wp2_with fail
            refine ⟨grown_of_below hb1, ?_⟩
            (repeat ((first | with_reducible refine wpOrdG_soft (fun K hK => ?_) | with_reducible refine wpOrdG_pre (fun K hK => ?_)); simp only [List.getElem?_toArray, List.getElem?_cons_zero, List.getElem?_cons_succ]; first | (go_simp; refine hK _ ?_) | (simp only [undef]; go_simp; refine hK _ ?_); clear hK K))
            (with_reducible refine wpOrdG_nil ?_); refine NoPanic.normal ?_
            have hb2 := undrew hb1
            obtain ⟨e0, e1, e2⟩ := (T1.out.mono hb2).atM (k := j - 1) (by rw [List.length_append, HA.out]; exact HJ1.out)
            have hS2 := T2.out.mono hb2
            obtain ⟨g0, g1, g2⟩ := hS2.atM (k := j) (by rw [List.length_append, HA.out]; exact HJ.out)
            have fz := hS2.fr
            have hlt2 := hS2.lt.2
            have G2 := Lib.hid (grown_trans hg' (grown_row' hb2)); have S2 := Lib.hid hS2
            clear c0 c1 c2 d0 d1 d2 hb1 hb2 hS2 hg' hlt'
            go_wp2_with fail
            refine wp_region_ordG [(0, 1), (1, 1), (2, 1), (3, 1), (4, 1), (5, 1), (6, 1), (7, 1), (8, 1), (9, 2), (10, 1), (11, 1), (12, 1), (13, 2), (14, 1), (15, 0), (16, 1), (17, 0)] [15, 17] (some g) (by kernel_rfl) (by kernel_rfl) ?_
            (repeat ((first | with_reducible refine wpOrdG_soft (fun K hK => ?_) | with_reducible refine wpOrdG_pre (fun K hK => ?_)); simp only [List.getElem?_toArray, List.getElem?_cons_zero, List.getElem?_cons_succ]; first | (go_simp; refine hK _ ?_) | (simp only [undef]; go_simp; refine hK _ ?_); clear hK K))
            (with_reducible refine wpOrdG_hard ?_; simp only [List.getElem?_toArray, List.getElem?_cons_zero, List.getElem?_cons_succ])
            go_wp2_with fail
            have s1 := S2.out.setM (k := j) (by rw [List.length_append, HA.out]; exact HJ.out) s
            refine ⟨grown_drew2 s1.2, ?_⟩
            have S1 := Lib.hid s1; clear s1
            (repeat ((first | with_reducible refine wpOrdG_soft (fun K hK => ?_) | with_reducible refine wpOrdG_pre (fun K hK => ?_)); simp only [List.getElem?_toArray, List.getElem?_cons_zero, List.getElem?_cons_succ]; first | (go_simp; refine hK _ ?_) | (simp only [undef]; go_simp; refine hK _ ?_); clear hK K))
            (with_reducible refine wpOrdG_hard ?_; simp only [List.getElem?_toArray, List.getElem?_cons_zero, List.getElem?_cons_succ])
            go_wp2_with fail
            have s2 := S1.out.1
            rw [show (A ++ (P1 ++ [s])) ++ s :: (P2 ++ (Q ++ C)) = (A ++ P1) ++ s :: (s :: (P2 ++ (Q ++ C))) by simp] at s2
            have s3 := s2.setM (k := j - 1) (by rw [List.length_append, HA.out]; exact HJ1.out) x
            have g3 := grown_trans S1.out.2 s3.2
            refine ⟨grown_drew2 g3, ?_⟩
            have T3 := Lib.hid s3.1; have G3 := Lib.hid g3; clear s2 s3 g3
            (with_reducible refine wpOrdG_nil ?_); refine NoPanic.normal ?_
            go_wp2
            go_roundw
            case rel =>
              refine ⟨P1, s :: P2, j - 1, by go_num, HJ1.out, by rw [← HE.out]; simp, ?_, by have := T3.out; rw [List.append_assoc] at this; exact this.drew, grown_trans G2.out (grown_drewR G3.out)⟩
              intro y hy
              rcases List.mem_cons.1 hy with rfl | hy
              · exact HBf.out
              · exact HX.out y hy
            case measure => simp [intOf] <;> omega
          · have hc : decide (cmpT x s < 0) = false := by have : ¬ cmpT x s < 0 := fun h => hb ((cmpT_neg x s).1 h); simp; omega
            have HBf := Lib.hid hb; clear hb
            go_wp2_with fail
            refine wp_region_ordG [(0, 1), (1, 1), (2, 1), (3, 1), (4, 1), (5, 1), (6, 1), (7, 1), (8, 2), (9, 1), (10, 1), (11, 1), (12, 1), (13, 2), (14, 0), (15, 1), (16, 1)] [14] (none) (by kernel_rfl) (by kernel_rfl) ?_
            (repeat ((first | with_reducible refine wpOrdG_soft (fun K hK => ?_) | with_reducible refine wpOrdG_pre (fun K hK => ?_)); simp only [List.getElem?_toArray, List.getElem?_cons_zero, List.getElem?_cons_succ]; first | (go_simp; refine hK _ ?_) | (simp only [undef]; go_simp; refine hK _ ?_); clear hK K))
            (with_reducible refine wpOrdG_hard ?_; simp only [List.getElem?_toArray, List.getElem?_cons_zero, List.getElem?_cons_succ])
            go_wp2_with fail
            refine (compareTones_any x s _).mono ?_
            rintro e w1 ⟨rfl, hb1⟩
            go_wp2_with fail
            refine ⟨grown_of_below hb1, ?_⟩
            (repeat ((first | with_reducible refine wpOrdG_soft (fun K hK => ?_) | with_reducible refine wpOrdG_pre (fun K hK => ?_)); simp only [List.getElem?_toArray, List.getElem?_cons_zero, List.getElem?_cons_succ]; first | (go_simp; refine hK _ ?_) | (simp only [undef]; go_simp; refine hK _ ?_); clear hK K))
            (with_reducible refine wpOrdG_nil ?_); refine NoPanic.normal ?_
            have hb2 := undrew hb1
            go_wp2
            go_roundw
            case rel =>
              have hsr := HSr.out
              rw [← HE.out] at hsr
              refine ⟨k + 1, (P1 ++ [s]) ++ x :: P2, Q, by go_num, by omega, by omega, ?_, hsr.insert (hsr.left.all_le HBf.out) (fun y hy => leT_of (HX.out y hy)), ?_, ?_, grown_trans hg' (grown_row' hb2)⟩
              · exact ins_len HPk.out HE.out (by omega)
              · exact ins_perm HPm.out HE.out
              · exact ins_at (T2.out.mono hb2)
            case measure => simp [intOf] <;> omega
    · have hql : Q.length = 0 := by omega
      obtain rfl := List.eq_nil_of_length_eq_zero hql
      have HSr := Lib.hid hs; have HPm := Lib.hid hp; clear hs hp
      go_wp2
      go_end0
      exact ⟨rfl, ⟨P, by simpa using HPm.out, HSr.out, by simpa using hT⟩, hg⟩

end Go.Proofs.Ytemmnjokojgjaaa
/- symMergeCmpFunc at tones, where the left part is one tone. -/
set_option linter.unusedSimpArgs false
set_option linter.unnecessarySimpa false
set_option linter.unusedVariables false
set_option maxRecDepth 100000
namespace Go.Proofs.Ytemmnjokojgjaaa
open Go.RowKit

theorem formR (A R C : List Ton) (x : Ton) (k : Nat) (hk : k < R.length) : A ++ (x :: (R ++ C)) = (A ++ x :: R.take k) ++ R[k] :: (R.drop (k + 1) ++ C) := by
  have e : R ++ C = R.take k ++ (R[k] :: (R.drop (k + 1) ++ C)) := by
    conv => lhs; rw [← List.take_append_drop k R, List.drop_eq_getElem_cons hk]
    simp only [List.append_assoc, List.cons_append]
  rw [e]; simp only [List.append_assoc, List.cons_append]
theorem srt_at {R : List Ton} (h : Srt R) {i j : Nat} (hij : i ≤ j) (hj : j < R.length) : leT (R[i]'(by omega)) R[j] := by
  rcases Nat.lt_or_eq_of_le hij with h1 | rfl
  · exact List.pairwise_iff_getElem.1 h i j (by omega) hj h1
  · exact leT_refl _
theorem tk_all {R : List Ton} {Q : Ton → Prop} {m : Nat} (h : ∀ k (hk : k < R.length), k < m → Q R[k]) : ∀ y ∈ R.take m, Q y := by
  intro y hy
  obtain ⟨k, hk, rfl⟩ := List.getElem_of_mem hy
  rw [List.length_take] at hk
  rw [List.getElem_take]
  exact h k (by omega) (by omega)
theorem dr_all {R : List Ton} {Q : Ton → Prop} {m : Nat} (h : ∀ k (hk : k < R.length), m ≤ k → Q R[k]) : ∀ y ∈ R.drop m, Q y := by
  intro y hy
  obtain ⟨k, hk, rfl⟩ := List.getElem_of_mem hy
  rw [List.length_drop] at hk
  rw [List.getElem_drop]
  exact h (m + k) (by omega) (by omega)
theorem mid_bd {lo hi : Nat} (h : lo < hi) : lo ≤ (lo + hi) / 2 ∧ (lo + hi) / 2 < hi := by omega
theorem move_form (A P Q C : List Ton) (x y : Ton) : A ++ (P ++ x :: (y :: Q ++ C)) = (A ++ P) ++ x :: (y :: (Q ++ C)) ∧ A ++ (P ++ x :: (y :: Q ++ C)) = (A ++ (P ++ [x])) ++ y :: (Q ++ C) ∧ (A ++ P) ++ y :: (x :: (Q ++ C)) = A ++ ((P ++ [y]) ++ x :: (Q ++ C)) := by simp

set_option maxHeartbeats 2000000 in
theorem symA_any (base g n cap a m b : Nat) (A R C : List Ton) (x : Ton) (w : World) (h : TR w base g n cap (A ++ (x :: (R ++ C)))) (hn : n ≤ 1000000) (ha : A.length = a) (hm : a + 1 = m) (hb : m + R.length = b) (hR : Srt R) :
    Calls Try.prog 119 #[.slice (some ⟨g, 0, none⟩) n cap, .int .i64 a, .int .i64 m, .int .i64 b, .func (.func 102) #[] #[]] w fun e w' => e = .returned (.tuple #[]) ∧ (∃ S', S'.Perm (x :: R) ∧ Srt S' ∧ TR w' base g n cap (A ++ (S' ++ C))) ∧ w.grownBy w' (some g) := by
  have hln := h.len
  simp only [List.length_append, List.length_cons] at hln
  have hcn : n ≤ cap := by rcases h.2.2 with ⟨e, _⟩ | ⟨g', cap', cur, e, _, _, h1, _⟩ <;> cases e; exact h1
  have hgb := h.lt.1
  have q1 : b ≤ n := by omega
  have q2 : m ≤ b := by omega
  have q3 : R.length = b - m := by omega
  have HA := Lib.hid ha; have HB := Lib.hid hb; have HS := Lib.hid q3; have HR := Lib.hid hR
  have e0 : (m : Int) - (a : Int) = 1 := by omega
  have am : a < m := by omega
  have E0 := Lib.hid hm
  have dm : decide ((m : Int) - (a : Int) = 1) = true := by simp; omega
  have dm2 : (((m : Int) - (a : Int)) == 1) = true := by simp; omega
  clear hln ha hb q3 hR hm e0
  go_enter Try.func119, Try.ntmps119
  go_wp2_with fail
  go_loopw [10, 11] (fun i j wr => ∃ (lo hi : Nat), i = .int .i64 ((m : Int) + (lo : Int)) ∧ j = .int .i64 ((m : Int) + (hi : Int)) ∧ lo ≤ hi ∧ hi ≤ b - m ∧ (∀ k (hk : k < R.length), k < lo → before R[k] x) ∧ (∀ k (hk : k < R.length), hi ≤ k → leT x R[k]) ∧ TR wr base g n cap (A ++ (x :: (R ++ C))) ∧ w.grownBy wr (some g)) (fun i j _ => (intOf j - intOf i).toNat)
  case atStart => exact ⟨0, b - m, by go_num, by go_num, by omega, Nat.le_refl _, by omega, (fun k hk h => absurd hk (by rw [HS.out]; omega)), h, World.grownBy.refl _ _⟩
  case round =>
    obtain ⟨lo, hi, rfl, rfl, hlh, hhb, h1, h2, hT, hg⟩ := hrel
    by_cases hlt : lo < hi
    · obtain ⟨q, hq⟩ : ∃ q : Nat, q = (lo + hi) / 2 := ⟨_, rfl⟩
      obtain ⟨hq1, hq2⟩ := mid_bd hlt
      rw [← hq] at hq1 hq2
      have EQ := Lib.hid (show ((m : Int) + (lo : Int) + ((m : Int) + (hi : Int))) / 2 = (m : Int) + (q : Int) by omega)
      clear hq
      have hqr : q < R.length := by rw [HS.out]; omega
      obtain ⟨c0, c1, c2⟩ := hT.atM (k := a) HA.out
      have hT2 := hT
      rw [formR A R C x q hqr] at hT2
      obtain ⟨d0, d1, d2⟩ := hT2.atM (k := m + q) (by rw [List.length_append, List.length_cons, List.length_take, HA.out]; have := E0.out; omega)
      have hlt' := hT.lt.2
      have z2 : ((m : Int) + (q : Int)).toNat = m + q := by omega
      have b1 : (0 : Int) ≤ (m : Int) + (q : Int) := by omega
      have b2 : (m : Int) + (q : Int) < (n : Int) := by omega
      have b3 : (a : Int) < (n : Int) := by omega
      have HT := Lib.hid hT; have H1 := Lib.hid h1; have H2 := Lib.hid h2; clear hT2 hT h1 h2
      by_cases hbx : before R[q] x
      · have hc : decide (cmpT R[q] x < 0) = true := by simpa using (cmpT_neg _ x).2 hbx
        have HBf := Lib.hid hbx; clear hbx
        go_wp2_with fail
        simp only [EQ.out]
        refine wp_region_ordG [(0, 1), (1, 1), (2, 1), (3, 1), (4, 2), (5, 1), (6, 1), (7, 1), (8, 2), (9, 0), (10, 1)] [9] (none) (by kernel_rfl) (by kernel_rfl) ?_
        (repeat ((first | with_reducible refine wpOrdG_soft (fun K hK => ?_) | with_reducible refine wpOrdG_pre (fun K hK => ?_)); simp only [List.getElem?_toArray, List.getElem?_cons_zero, List.getElem?_cons_succ]; first | (go_simp; refine hK _ ?_) | (simp only [undef]; go_simp; refine hK _ ?_); clear hK K))
        (with_reducible refine wpOrdG_hard ?_; simp only [List.getElem?_toArray, List.getElem?_cons_zero, List.getElem?_cons_succ])
        go_wp2_with fail
        refine (compareTones_any R[q] x _).mono ?_
        rintro e w1 ⟨rfl, hb1⟩
        go_wp2_with fail
        refine ⟨grown_of_below hb1, ?_⟩
        (repeat ((first | with_reducible refine wpOrdG_soft (fun K hK => ?_) | with_reducible refine wpOrdG_pre (fun K hK => ?_)); simp only [List.getElem?_toArray, List.getElem?_cons_zero, List.getElem?_cons_succ]; first | (go_simp; refine hK _ ?_) | (simp only [undef]; go_simp; refine hK _ ?_); clear hK K))
        (with_reducible refine wpOrdG_nil ?_); refine NoPanic.normal ?_
        have hb2 := undrew hb1
        go_wp2
        go_roundw
        case rel =>
          refine ⟨q + 1, hi, by go_num, rfl, by omega, hhb, fun k hk hkq => before_le' (srt_at HR.out (by omega) hqr) HBf.out, H2.out, HT.out.mono hb2, grown_trans hg (grown_row' hb2)⟩
        case measure => simp [intOf] <;> omega
      · have hc : decide (cmpT R[q] x < 0) = false := by have : ¬ cmpT R[q] x < 0 := fun h => hbx ((cmpT_neg _ x).1 h); simp; omega
        have HBf := Lib.hid hbx; clear hbx
        go_wp2_with fail
        simp only [EQ.out]
        refine wp_region_ordG [(0, 1), (1, 1), (2, 1), (3, 1), (4, 2), (5, 1), (6, 1), (7, 1), (8, 2), (9, 0), (10, 1)] [9] (none) (by kernel_rfl) (by kernel_rfl) ?_
        (repeat ((first | with_reducible refine wpOrdG_soft (fun K hK => ?_) | with_reducible refine wpOrdG_pre (fun K hK => ?_)); simp only [List.getElem?_toArray, List.getElem?_cons_zero, List.getElem?_cons_succ]; first | (go_simp; refine hK _ ?_) | (simp only [undef]; go_simp; refine hK _ ?_); clear hK K))
        (with_reducible refine wpOrdG_hard ?_; simp only [List.getElem?_toArray, List.getElem?_cons_zero, List.getElem?_cons_succ])
        go_wp2_with fail
        refine (compareTones_any R[q] x _).mono ?_
        rintro e w1 ⟨rfl, hb1⟩
        go_wp2_with fail
        refine ⟨grown_of_below hb1, ?_⟩
        (repeat ((first | with_reducible refine wpOrdG_soft (fun K hK => ?_) | with_reducible refine wpOrdG_pre (fun K hK => ?_)); simp only [List.getElem?_toArray, List.getElem?_cons_zero, List.getElem?_cons_succ]; first | (go_simp; refine hK _ ?_) | (simp only [undef]; go_simp; refine hK _ ?_); clear hK K))
        (with_reducible refine wpOrdG_nil ?_); refine NoPanic.normal ?_
        have hb2 := undrew hb1
        go_wp2
        go_roundw
        case rel =>
          refine ⟨lo, q, rfl, rfl, by omega, by omega, H1.out, fun k hk hkq => leT_trans HBf.out (srt_at HR.out hkq hk), HT.out.mono hb2, grown_trans hg (grown_row' hb2)⟩
        case measure => simp [intOf] <;> omega
    · obtain rfl : lo = hi := by omega
      have HP1 := Lib.hid (tk_all (Q := fun y => before y x) h1)
      have HP2 := Lib.hid (dr_all (Q := fun y => leT x y) h2)
      have k1 : (R.take lo).length = lo := by rw [List.length_take, HS.out]; omega
      have K1 := Lib.hid k1
      have hT0 : TR wr base g n cap (A ++ ([] ++ x :: (R.take lo ++ (R.drop lo ++ C)))) := by rw [List.nil_append, ← List.append_assoc (R.take lo), List.take_append_drop]; exact hT
      have HT := Lib.hid hT0
      obtain ⟨wo, rfl⟩ : ∃ wo : World, wo = wr := ⟨_, rfl⟩
      have hgo : wo.grownBy wo (some g) := World.grownBy.refl _ _
      clear h1 h2 hT hT0 k1
      go_wp2_with fail
      go_loopw [13] (fun k wr => ∃ (P Q : List Ton) (k0 : Nat), k = .int .i64 (k0 : Int) ∧ a + P.length = k0 ∧ P.length + Q.length = lo ∧ P ++ Q = R.take lo ∧ TR wr base g n cap (A ++ (P ++ x :: (Q ++ (R.drop lo ++ C)))) ∧ w.grownBy wr (some g)) (fun k _ => b + 1 - (intOf k).toNat)
      case atStart => exact ⟨[], R.take lo, a, rfl, rfl, by simpa using K1.out, rfl, HT.out, hg⟩
      case round =>
        obtain ⟨P, Q, k, rfl, hk, hl, he, hT', hg'⟩ := hrel
        have hm := E0.out
        have HE := Lib.hid he; clear he
        rcases Q with _ | ⟨y, Q⟩
        · have hkk : k = a + lo := by simp at hl; omega
          have d0 : decide ((k : Int) < (m : Int) + (lo : Int) - 1) = false := by simp; omega
          have HT' := Lib.hid hT'; clear hT' hl hk
          go_wp2
          ((try simp only [Exit.inBlock, Exit.then]); refine bodyPost_ret (results_none rfl _ _ _) rfl ?_)
          have e1 : P = R.take lo := by have := HE.out; simpa using this
          subst e1
          exact ⟨rfl, ⟨R.take lo ++ x :: R.drop lo, List.perm_middle.trans (by rw [List.take_append_drop]), Srt.insert (by rw [List.take_append_drop]; exact HR.out) (fun y hy => leT_of (HP1.out y hy)) HP2.out, by have := HT'.out; simpa using this⟩, hg'⟩
        · have hkk : k < a + lo := by simp at hl; omega
          have d0 : decide ((k : Int) < (m : Int) + (lo : Int) - 1) = true := by simp; omega
          obtain ⟨f1, f2, f3⟩ := move_form A P Q (R.drop lo ++ C) x y
          have t1 := hT'; have t2 := hT'
          rw [f1] at t1; rw [f2] at t2
          obtain ⟨c0, c1, c2⟩ := t1.atM (k := k) (by rw [List.length_append, HA.out]; exact hk)
          obtain ⟨d0, d1, d2⟩ := t2.atM (k := k + 1) (by simp only [List.length_append, List.length_cons, List.length_nil, HA.out]; omega)
          have fz := hT'.fr
          have hlt' := hT'.lt.2
          have T1 := Lib.hid t1; have HK := Lib.hid hk; have HL := Lib.hid hl; have F3 := Lib.hid f3; clear hT' t1 t2 f1 f2 f3 hk hl
          have z1 : ((k : Int) + 1).toNat = k + 1 := by omega
          have w1' : IntKind.i64.wrap ((k : Int) + 1) = (k : Int) + 1 := IntWalk.i64_in _ (by omega)
          have b2 : (k : Int) + 1 < (n : Int) := by omega
          have b3 : (k : Int) < (n : Int) := by omega
          have b4 : (0 : Int) ≤ (k : Int) + 1 := by omega
          go_wp2_with fail
          refine wp_region_ordG [(0, 1), (1, 1), (2, 1), (3, 1), (4, 1), (5, 1), (6, 1), (7, 1), (8, 1), (9, 2), (10, 1), (11, 1), (12, 1), (13, 2), (14, 1), (15, 0), (16, 1), (17, 0)] [15, 17] (some g) (by kernel_rfl) (by kernel_rfl) ?_
          (repeat ((first | with_reducible refine wpOrdG_soft (fun K hK => ?_) | with_reducible refine wpOrdG_pre (fun K hK => ?_)); simp only [List.getElem?_toArray, List.getElem?_cons_zero, List.getElem?_cons_succ]; first | (go_simp; refine hK _ ?_) | (simp only [undef]; go_simp; refine hK _ ?_); clear hK K))
          (with_reducible refine wpOrdG_hard ?_; simp only [List.getElem?_toArray, List.getElem?_cons_zero, List.getElem?_cons_succ])
          go_wp2_with fail
          have s1 := T1.out.setM (k := k) (by rw [List.length_append, HA.out]; exact HK.out) y
          refine ⟨grown_drew2 s1.2, ?_⟩
          have S1 := Lib.hid s1; clear s1
          (repeat ((first | with_reducible refine wpOrdG_soft (fun K hK => ?_) | with_reducible refine wpOrdG_pre (fun K hK => ?_)); simp only [List.getElem?_toArray, List.getElem?_cons_zero, List.getElem?_cons_succ]; first | (go_simp; refine hK _ ?_) | (simp only [undef]; go_simp; refine hK _ ?_); clear hK K))
          (with_reducible refine wpOrdG_hard ?_; simp only [List.getElem?_toArray, List.getElem?_cons_zero, List.getElem?_cons_succ])
          go_wp2_with fail
          have s2 := S1.out.1
          rw [show (A ++ P) ++ y :: (y :: (Q ++ (R.drop lo ++ C))) = (A ++ (P ++ [y])) ++ y :: (Q ++ (R.drop lo ++ C)) by simp] at s2
          have s3 := s2.setM (k := k + 1) (by simp only [List.length_append, List.length_cons, List.length_nil, HA.out]; have := HK.out; omega) x
          have g3 := grown_trans S1.out.2 s3.2
          refine ⟨grown_drew2 g3, ?_⟩
          have T3 := Lib.hid s3.1; have G3 := Lib.hid g3; clear s2 s3 g3
          (with_reducible refine wpOrdG_nil ?_); refine NoPanic.normal ?_
          go_wp2
          go_roundw
          case rel =>
            refine ⟨P ++ [y], Q, k + 1, by go_num, by simp; have := HK.out; omega, by have := HL.out; simp at *; omega, by rw [← HE.out]; simp, ?_, grown_trans hg' (grown_drewR G3.out)⟩
            have := T3.out
            rw [List.append_assoc] at this
            exact this.drew
          case measure => simp [intOf] <;> omega
end Go.Proofs.Ytemmnjokojgjaaa
/- symMergeCmpFunc at tones, where the right part is one tone and the left part more. -/
set_option linter.unusedSimpArgs false
set_option linter.unnecessarySimpa false
set_option linter.unusedVariables false
set_option maxRecDepth 100000
namespace Go.Proofs.Ytemmnjokojgjaaa
open Go.RowKit

theorem formL (A L C : List Ton) (k : Nat) (hk : k < L.length) : A ++ (L ++ C) = (A ++ L.take k) ++ L[k] :: (L.drop (k + 1) ++ C) := by
  have e : L ++ C = L.take k ++ (L[k] :: (L.drop (k + 1) ++ C)) := by
    conv => lhs; rw [← List.take_append_drop k L, List.drop_eq_getElem_cons hk]
    simp only [List.append_assoc, List.cons_append]
  rw [e]; simp only [List.append_assoc, List.cons_append]
theorem back_form (A P Q C : List Ton) (y x : Ton) : A ++ ((P ++ [y]) ++ x :: (Q ++ C)) = (A ++ P) ++ y :: (x :: (Q ++ C)) ∧ A ++ ((P ++ [y]) ++ x :: (Q ++ C)) = (A ++ (P ++ [y])) ++ x :: (Q ++ C) ∧ (A ++ (P ++ [y])) ++ y :: (Q ++ C) = (A ++ P) ++ y :: (y :: (Q ++ C)) := by simp

set_option maxHeartbeats 2000000 in
theorem symB_any (base g n cap a m b : Nat) (A L C : List Ton) (x : Ton) (w : World) (h : TR w base g n cap (A ++ (L ++ (x :: C)))) (hn : n ≤ 1000000) (ha : A.length = a) (hm : a + L.length = m) (hb : m + 1 = b) (hL : Srt L) (hL1 : L.length ≠ 1) :
    Calls Try.prog 119 #[.slice (some ⟨g, 0, none⟩) n cap, .int .i64 a, .int .i64 m, .int .i64 b, .func (.func 102) #[] #[]] w fun e w' => e = .returned (.tuple #[]) ∧ (∃ S', S'.Perm (L ++ [x]) ∧ Srt S' ∧ TR w' base g n cap (A ++ (S' ++ C))) ∧ w.grownBy w' (some g) := by
  have hln := h.len
  simp only [List.length_append, List.length_cons] at hln
  have hcn : n ≤ cap := by rcases h.2.2 with ⟨e, _⟩ | ⟨g', cap', cur, e, _, _, h1, _⟩ <;> cases e; exact h1
  have hgb := h.lt.1
  have q1 : b ≤ n := by omega
  have q2 : a ≤ m := by omega
  have q4 : m < b := by omega
  have q3 : L.length = m - a := by omega
  have HA := Lib.hid ha; have HB := Lib.hid hb; have HS := Lib.hid q3; have HR := Lib.hid hL
  have E0 := Lib.hid hm
  have dm : decide ((m : Int) - (a : Int) = 1) = false := by simp; omega
  have dm2 : (((m : Int) - (a : Int)) == 1) = false := by simp; omega
  have db : decide ((b : Int) - (m : Int) = 1) = true := by simp; omega
  have db2 : (((b : Int) - (m : Int)) == 1) = true := by simp; omega
  clear hln ha hb q3 hL hm hL1
  go_enter Try.func119, Try.ntmps119
  go_wp2_with fail
  go_loopw [14, 15] (fun i j wr => ∃ (lo hi : Nat), i = .int .i64 ((a : Int) + (lo : Int)) ∧ j = .int .i64 ((a : Int) + (hi : Int)) ∧ lo ≤ hi ∧ hi ≤ m - a ∧ (∀ k (hk : k < L.length), k < lo → leT L[k] x) ∧ (∀ k (hk : k < L.length), hi ≤ k → before x L[k]) ∧ TR wr base g n cap (A ++ (L ++ (x :: C))) ∧ w.grownBy wr (some g)) (fun i j _ => (intOf j - intOf i).toNat)
  case atStart => exact ⟨0, m - a, by go_num, by go_num, by omega, Nat.le_refl _, by omega, (fun k hk h => absurd hk (by rw [HS.out]; omega)), h, World.grownBy.refl _ _⟩
  case round =>
    obtain ⟨lo, hi, rfl, rfl, hlh, hhb, h1, h2, hT, hg⟩ := hrel
    by_cases hlt : lo < hi
    · obtain ⟨q, hq⟩ : ∃ q : Nat, q = (lo + hi) / 2 := ⟨_, rfl⟩
      obtain ⟨hq1, hq2⟩ := mid_bd hlt
      rw [← hq] at hq1 hq2
      have EQ := Lib.hid (show ((a : Int) + (lo : Int) + ((a : Int) + (hi : Int))) / 2 = (a : Int) + (q : Int) by omega)
      clear hq
      have hqr : q < L.length := by rw [HS.out]; omega
      have hT1 := hT
      rw [← List.append_assoc] at hT1
      obtain ⟨c0, c1, c2⟩ := hT1.atM (k := m) (by rw [List.length_append, HA.out]; exact E0.out)
      have hT2 := hT
      rw [formL A L (x :: C) q hqr] at hT2
      obtain ⟨d0, d1, d2⟩ := hT2.atM (k := a + q) (by rw [List.length_append, List.length_take, HA.out]; omega)
      have hlt' := hT.lt.2
      have z2 : ((a : Int) + (q : Int)).toNat = a + q := by omega
      have b1 : (0 : Int) ≤ (a : Int) + (q : Int) := by omega
      have b2 : (a : Int) + (q : Int) < (n : Int) := by omega
      have b3 : (m : Int) < (n : Int) := by omega
      have HT := Lib.hid hT; have H1 := Lib.hid h1; have H2 := Lib.hid h2; clear hT1 hT2 hT h1 h2
      by_cases hbx : before x L[q]
      · have hc : decide (cmpT x L[q] < 0) = true := by simpa using (cmpT_neg x _).2 hbx
        have hc2 : decide (0 ≤ cmpT x L[q]) = false := by have := (cmpT_neg x _).2 hbx; simp; omega
        have HBf := Lib.hid hbx; clear hbx
        go_wp2_with fail
        simp only [EQ.out]
        refine wp_region_ordG [(0, 1), (1, 1), (2, 1), (3, 1), (4, 2), (5, 1), (6, 1), (7, 1), (8, 2), (9, 0), (10, 1), (11, 1)] [9] (none) (by kernel_rfl) (by kernel_rfl) ?_
        (repeat ((first | with_reducible refine wpOrdG_soft (fun K hK => ?_) | with_reducible refine wpOrdG_pre (fun K hK => ?_)); simp only [List.getElem?_toArray, List.getElem?_cons_zero, List.getElem?_cons_succ]; first | (go_simp; refine hK _ ?_) | (simp only [undef]; go_simp; refine hK _ ?_); clear hK K))
        (with_reducible refine wpOrdG_hard ?_; simp only [List.getElem?_toArray, List.getElem?_cons_zero, List.getElem?_cons_succ])
        go_wp2_with fail
        refine (compareTones_any x L[q] _).mono ?_
        rintro e w1 ⟨rfl, hb1⟩
        go_wp2_with fail
        refine ⟨grown_of_below hb1, ?_⟩
        (repeat ((first | with_reducible refine wpOrdG_soft (fun K hK => ?_) | with_reducible refine wpOrdG_pre (fun K hK => ?_)); simp only [List.getElem?_toArray, List.getElem?_cons_zero, List.getElem?_cons_succ]; first | (go_simp; refine hK _ ?_) | (simp only [undef]; go_simp; refine hK _ ?_); clear hK K))
        (with_reducible refine wpOrdG_nil ?_); refine NoPanic.normal ?_
        have hb2 := undrew hb1
        go_wp2
        go_roundw
        case rel =>
          refine ⟨lo, q, rfl, rfl, by omega, by omega, H1.out, fun k hk hkq => before_le HBf.out (srt_at HR.out hkq hk), HT.out.mono hb2, grown_trans hg (grown_row' hb2)⟩
        case measure => simp [intOf] <;> omega
      · have hc : decide (cmpT x L[q] < 0) = false := by have : ¬ cmpT x L[q] < 0 := fun h => hbx ((cmpT_neg x _).1 h); simp; omega
        have hc2 : decide (0 ≤ cmpT x L[q]) = true := by have : ¬ cmpT x L[q] < 0 := fun h => hbx ((cmpT_neg x _).1 h); simp; omega
        have HBf := Lib.hid hbx; clear hbx
        go_wp2_with fail
        simp only [EQ.out]
        refine wp_region_ordG [(0, 1), (1, 1), (2, 1), (3, 1), (4, 2), (5, 1), (6, 1), (7, 1), (8, 2), (9, 0), (10, 1), (11, 1)] [9] (none) (by kernel_rfl) (by kernel_rfl) ?_
        (repeat ((first | with_reducible refine wpOrdG_soft (fun K hK => ?_) | with_reducible refine wpOrdG_pre (fun K hK => ?_)); simp only [List.getElem?_toArray, List.getElem?_cons_zero, List.getElem?_cons_succ]; first | (go_simp; refine hK _ ?_) | (simp only [undef]; go_simp; refine hK _ ?_); clear hK K))
        (with_reducible refine wpOrdG_hard ?_; simp only [List.getElem?_toArray, List.getElem?_cons_zero, List.getElem?_cons_succ])
        go_wp2_with fail
        refine (compareTones_any x L[q] _).mono ?_
        rintro e w1 ⟨rfl, hb1⟩
        go_wp2_with fail
        refine ⟨grown_of_below hb1, ?_⟩
        (repeat ((first | with_reducible refine wpOrdG_soft (fun K hK => ?_) | with_reducible refine wpOrdG_pre (fun K hK => ?_)); simp only [List.getElem?_toArray, List.getElem?_cons_zero, List.getElem?_cons_succ]; first | (go_simp; refine hK _ ?_) | (simp only [undef]; go_simp; refine hK _ ?_); clear hK K))
        (with_reducible refine wpOrdG_nil ?_); refine NoPanic.normal ?_
        have hb2 := undrew hb1
        go_wp2
        go_roundw
        case rel =>
          refine ⟨q + 1, hi, by go_num, rfl, by omega, hhb, fun k hk hkq => leT_trans (srt_at HR.out (by omega) hqr) HBf.out, H2.out, HT.out.mono hb2, grown_trans hg (grown_row' hb2)⟩
        case measure => simp [intOf] <;> omega
    · obtain rfl : lo = hi := by omega
      have HP1 := Lib.hid (tk_all (Q := fun y => leT y x) h1)
      have HP2 := Lib.hid (dr_all (Q := fun y => before x y) h2)
      have k1 : (L.take lo).length = lo := by rw [List.length_take, HS.out]; omega
      have k2 : (L.drop lo).length = m - a - lo := by rw [List.length_drop, HS.out]
      have K1 := Lib.hid k1; have K2 := Lib.hid k2
      have hT0 : TR wr base g n cap ((A ++ L.take lo) ++ (L.drop lo ++ x :: ([] ++ C))) := by rw [List.nil_append, List.append_assoc A, cut2]; exact hT
      have HT := Lib.hid hT0
      obtain ⟨wo, rfl⟩ : ∃ wo : World, wo = wr := ⟨_, rfl⟩
      have hgo : wo.grownBy wo (some g) := World.grownBy.refl _ _
      clear h1 h2 hT hT0 k1 k2
      go_wp2_with fail
      go_loopw [17] (fun k wr => ∃ (P Q : List Ton) (k0 : Nat), k = .int .i64 (k0 : Int) ∧ a + lo + P.length = k0 ∧ P.length + Q.length = m - a - lo ∧ P ++ Q = L.drop lo ∧ TR wr base g n cap ((A ++ L.take lo) ++ (P ++ x :: (Q ++ C))) ∧ w.grownBy wr (some g)) (fun k _ => (intOf k).toNat)
      case atStart => exact ⟨L.drop lo, [], m, rfl, by rw [K2.out]; omega, by simpa using K2.out, by simp, HT.out, hg⟩
      case round =>
        obtain ⟨P, Q, k, rfl, hk, hl, he, hT', hg'⟩ := hrel
        have hm := E0.out
        have HE := Lib.hid he; clear he
        rcases List.eq_nil_or_concat P with rfl | ⟨P, y, rfl⟩
        · have hkk : k = a + lo := by simp at hk; omega
          have d0 : decide ((a : Int) + (lo : Int) < (k : Int)) = false := by simp; omega
          have HT' := Lib.hid hT'; clear hT' hl hk
          go_wp2
          ((try simp only [Exit.inBlock, Exit.then]); refine bodyPost_ret (results_none rfl _ _ _) rfl ?_)
          have e1 : Q = L.drop lo := by have := HE.out; simpa using this
          subst e1
          exact ⟨rfl, ⟨L.take lo ++ x :: L.drop lo, List.perm_middle.trans (by rw [List.take_append_drop]; exact (List.perm_append_comm (l₁ := [x]))), Srt.insert (by rw [List.take_append_drop]; exact HR.out) HP1.out (fun y hy => leT_of (HP2.out y hy)), by have := HT'.out; simpa using this⟩, hg'⟩
        · rw [List.concat_eq_append] at hk hl hT' HE
          have hk3 : a + lo + P.length = k - 1 ∧ 1 ≤ k ∧ a + lo < k ∧ k ≤ m := by simp at hk hl; omega
          obtain ⟨hk4, hk5, hkk, hkm⟩ := hk3
          have d0 : decide ((a : Int) + (lo : Int) < (k : Int)) = true := by simp; omega
          obtain ⟨f1, f2, f3⟩ := back_form (A ++ L.take lo) P Q C y x
          have t1 := hT'; have t2 := hT'
          rw [f1] at t1; rw [f2] at t2
          have L1 : (A ++ L.take lo).length = a + lo := by rw [List.length_append, HA.out, K1.out]
          have E1 := Lib.hid (show ((A ++ L.take lo) ++ P).length = k - 1 by rw [List.length_append, L1]; exact hk4)
          have E2 := Lib.hid (show ((A ++ L.take lo) ++ (P ++ [y])).length = k by rw [List.length_append, L1]; exact hk)
          obtain ⟨c0, c1, c2⟩ := t1.atM (k := k - 1) E1.out
          obtain ⟨d0, d1, d2⟩ := t2.atM (k := k) E2.out
          have fz := hT'.fr
          have hlt' := hT'.lt.2
          have T2 := Lib.hid t2; have HL := Lib.hid hl; have F3 := Lib.hid f3; have HK4 := Lib.hid hk4; clear hT' t1 t2 f1 f2 f3 hk hl L1 hk4
          have z1 : ((k : Int) - 1).toNat = k - 1 := by omega
          have w1' : IntKind.i64.wrap ((k : Int) - 1) = (k : Int) - 1 := IntWalk.i64_in _ (by omega)
          have b1 : (1 : Int) ≤ (k : Int) := by omega
          have b1' : (0 : Int) ≤ (k : Int) - 1 := by omega
          have b6 : (k : Int) < (n : Int) + 1 := by omega
          have b2 : (k : Int) - 1 < (n : Int) := by omega
          have b3 : (k : Int) < (n : Int) := by omega
          have b7 : ¬ ((k : Int) - 1 < 0) := by omega
          have b8 : ¬ ((n : Int) ≤ (k : Int) - 1) := by omega
          go_wp2_with fail
          refine wp_region_ordG [(0, 1), (1, 1), (2, 1), (3, 1), (4, 1), (5, 1), (6, 1), (7, 1), (8, 1), (9, 2), (10, 1), (11, 1), (12, 1), (13, 2), (14, 1), (15, 0), (16, 1), (17, 0)] [15, 17] (some g) (by kernel_rfl) (by kernel_rfl) ?_
          (repeat ((first | with_reducible refine wpOrdG_soft (fun K hK => ?_) | with_reducible refine wpOrdG_pre (fun K hK => ?_)); simp only [List.getElem?_toArray, List.getElem?_cons_zero, List.getElem?_cons_succ]; first | (go_simp; refine hK _ ?_) | (simp only [undef]; go_simp; refine hK _ ?_); clear hK K))
          (with_reducible refine wpOrdG_hard ?_; simp only [List.getElem?_toArray, List.getElem?_cons_zero, List.getElem?_cons_succ])
          go_wp2_with fail
          have s1 := T2.out.setM (k := k) E2.out y
          refine ⟨grown_drew2 s1.2, ?_⟩
          have S1 := Lib.hid s1; clear s1
          (repeat ((first | with_reducible refine wpOrdG_soft (fun K hK => ?_) | with_reducible refine wpOrdG_pre (fun K hK => ?_)); simp only [List.getElem?_toArray, List.getElem?_cons_zero, List.getElem?_cons_succ]; first | (go_simp; refine hK _ ?_) | (simp only [undef]; go_simp; refine hK _ ?_); clear hK K))
          (with_reducible refine wpOrdG_hard ?_; simp only [List.getElem?_toArray, List.getElem?_cons_zero, List.getElem?_cons_succ])
          go_wp2_with fail
          have s2 := S1.out.1
          rw [F3.out] at s2
          have s3 := s2.setM (k := k - 1) E1.out x
          have g3 := grown_trans S1.out.2 s3.2
          refine ⟨grown_drew2 g3, ?_⟩
          have T3 := Lib.hid s3.1; have G3 := Lib.hid g3; clear s2 s3 g3
          (with_reducible refine wpOrdG_nil ?_); refine NoPanic.normal ?_
          go_wp2
          go_roundw
          case rel =>
            refine ⟨P, y :: Q, k - 1, by go_num, HK4.out, by have := HL.out; simp at *; omega, by rw [← HE.out]; simp, ?_, grown_trans hg' (grown_drewR G3.out)⟩
            have := T3.out
            rw [List.append_assoc] at this
            exact this.drew
          case measure => simp [intOf] <;> omega

end Go.Proofs.Ytemmnjokojgjaaa
/- What the parts of a merge of two rows in order owe one another. No program in sight. -/
set_option linter.unusedSimpArgs false
set_option linter.unnecessarySimpa false
set_option linter.unusedVariables false
namespace Go.Proofs.Ytemmnjokojgjaaa
open Go.RowKit

def loOk (L R : List Ton) (M s : Nat) : Prop := s = M - R.length ∨ ∃ (h1 : s - 1 < L.length) (h2 : M - s < R.length), 0 < s ∧ leT L[s - 1] R[M - s]
def hiOk (L R : List Ton) (M s : Nat) : Prop := s = M ∨ s = L.length ∨ ∃ (h1 : s < L.length) (h2 : M - 1 - s < R.length), s < M ∧ before R[M - 1 - s] L[s]

theorem sym_cross {L R : List Ton} {M s : Nat} (hL : Srt L) (hR : Srt R) (h1 : loOk L R M s) (h2 : hiOk L R M s) :
    ∀ x ∈ L.take s ++ R.take (M - s), ∀ y ∈ L.drop s ++ R.drop (M - s), leT x y := by
  intro x hx y hy
  rcases List.mem_append.1 hx with hx | hx <;> rcases List.mem_append.1 hy with hy | hy
  · exact Srt.cross (a := L.take s) (b := L.drop s) (by rw [List.take_append_drop]; exact hL) x hx y hy
  · rcases h1 with h1 | ⟨a1, a2, h0, h1⟩
    · rcases Nat.eq_zero_or_pos s with h0 | h0
      · subst h0; simp at hx
      · rw [List.drop_eq_nil_of_le (by omega)] at hy; cases hy
    · obtain ⟨i, hi, rfl⟩ := List.getElem_of_mem hx
      obtain ⟨j, hj, rfl⟩ := List.getElem_of_mem hy
      rw [List.length_take] at hi; rw [List.length_drop] at hj
      rw [List.getElem_take, List.getElem_drop]
      exact leT_trans (leT_trans (srt_at hL (by omega) a1) h1) (srt_at hR (by omega) (by omega))
  · rcases h2 with h2 | h2 | ⟨a1, a2, h0, h2⟩
    · subst h2; simp at hx
    · rw [List.drop_eq_nil_of_le (by omega)] at hy; cases hy
    · obtain ⟨i, hi, rfl⟩ := List.getElem_of_mem hx
      obtain ⟨j, hj, rfl⟩ := List.getElem_of_mem hy
      rw [List.length_take] at hi; rw [List.length_drop] at hj
      rw [List.getElem_take, List.getElem_drop]
      exact leT_trans (leT_trans (srt_at hR (by omega) a2) (leT_of h2)) (srt_at hL (by omega) (by omega))
  · exact Srt.cross (a := R.take (M - s)) (b := R.drop (M - s)) (by rw [List.take_append_drop]; exact hR) x hx y hy

/-- The end of a merge. -/
theorem sym_fin {L R S1 S2 : List Ton} {M s : Nat} (hc : ∀ x ∈ L.take s ++ R.take (M - s), ∀ y ∈ L.drop s ++ R.drop (M - s), leT x y)
    (p1 : S1.Perm (L.take s ++ R.take (M - s))) (p2 : S2.Perm (L.drop s ++ R.drop (M - s))) (s1 : Srt S1) (s2 : Srt S2) : (S1 ++ S2).Perm (L ++ R) ∧ Srt (S1 ++ S2) := by
  refine ⟨?_, Srt.app s1 s2 fun x hx y hy => hc x (p1.mem_iff.1 hx) y (p2.mem_iff.1 hy)⟩
  refine (p1.append p2).trans ?_
  have e : L ++ R = (L.take s ++ L.drop s) ++ (R.take (M - s) ++ R.drop (M - s)) := by rw [List.take_append_drop, List.take_append_drop]
  rw [e]
  simp only [List.append_assoc]
  refine List.Perm.append_left _ ?_
  rw [← List.append_assoc, ← List.append_assoc (L.drop s)]
  exact List.Perm.append_right _ List.perm_append_comm
theorem srt_part {L R : List Ton} {M s : Nat} (hL : Srt L) (hR : Srt R) : Srt (L.take s) ∧ Srt (L.drop s) ∧ Srt (R.take (M - s)) ∧ Srt (R.drop (M - s)) :=
  ⟨Srt.left (b := L.drop s) (by rw [List.take_append_drop]; exact hL), Srt.right (a := L.take s) (by rw [List.take_append_drop]; exact hL), Srt.left (b := R.drop (M - s)) (by rw [List.take_append_drop]; exact hR), Srt.right (a := R.take (M - s)) (by rw [List.take_append_drop]; exact hR)⟩
theorem srt_two {P Q : List Ton} (hP : Srt P) (hQ : Srt Q) (h : P.length = 0 ∨ Q.length = 0) : Srt (P ++ Q) := by
  rcases h with h | h
  · rw [List.eq_nil_of_length_eq_zero h]; simpa using hQ
  · rw [List.eq_nil_of_length_eq_zero h]; simpa using hP
theorem sym_start (A L R C : List Ton) (M s : Nat) : A ++ (L ++ (R ++ C)) = (A ++ L.take s) ++ (L.drop s ++ (R.take (M - s) ++ (R.drop (M - s) ++ C))) := by
  have e1 : L ++ (R ++ C) = (L.take s ++ L.drop s) ++ ((R.take (M - s) ++ R.drop (M - s)) ++ C) := by rw [List.take_append_drop, List.take_append_drop]
  rw [e1]; simp only [List.append_assoc]
theorem sym_swap0 (A P Q X Y : List Ton) (h : P.length = 0 ∨ Q.length = 0) : (A ++ X) ++ (P ++ (Q ++ Y)) = (A ++ X) ++ (Q ++ (P ++ Y)) := by
  rcases h with h | h
  · rw [List.eq_nil_of_length_eq_zero h]; rfl
  · rw [List.eq_nil_of_length_eq_zero h]; rfl
theorem sym_parts {A L R C : List Ton} {M s : Nat} (hL : Srt L) (hR : Srt R) (h1 : loOk L R M s) (h2 : hiOk L R M s) (k1 : s ≤ L.length) (k2 : s ≤ M) (k3 : M - s ≤ R.length) :
    ∃ L1 L2 R1 R2, L1.length = s ∧ L2.length = L.length - s ∧ R1.length = M - s ∧ R2.length = R.length - (M - s) ∧ Srt L1 ∧ Srt L2 ∧ Srt R1 ∧ Srt R2 ∧ A ++ (L ++ (R ++ C)) = (A ++ L1) ++ (L2 ++ (R1 ++ (R2 ++ C))) ∧
      ∀ S1 S2 : List Ton, S1.Perm (L1 ++ R1) → S2.Perm (L2 ++ R2) → Srt S1 → Srt S2 → (S1 ++ S2).Perm (L ++ R) ∧ Srt (S1 ++ S2) :=
  have h := srt_part (M := M) (s := s) hL hR
  ⟨L.take s, L.drop s, R.take (M - s), R.drop (M - s), by rw [List.length_take]; omega, by rw [List.length_drop], by rw [List.length_take]; omega, by rw [List.length_drop], h.1, h.2.1, h.2.2.1, h.2.2.2, sym_start A L R C M s,
    fun S1 S2 p1 p2 s1 s2 => sym_fin (sym_cross hL hR h1 h2) p1 p2 s1 s2⟩

end Go.Proofs.Ytemmnjokojgjaaa
