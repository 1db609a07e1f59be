/- Contract of symMergeCmpFunc at tones. -/
import Derived.Test.YthnnjjcopehccaaSymL
set_option linter.unusedSimpArgs false
set_option linter.unnecessarySimpa false
set_option linter.unusedVariables false
set_option maxRecDepth 100000
namespace Go.Proofs.Ythnnjjcopehccaa
open Go.RowKit

def SymTo (base g n cap a m b : Nat) (A L R C : List Ton) (w : World) : Prop :=
  Calls Try.prog 30 #[.slice (some ⟨g, 0, none⟩) n cap, .int .i64 a, .int .i64 m, .int .i64 b, .func (.func 18) #[] #[]] w fun e w' => e = .returned (.tuple #[]) ∧ (∃ S', S'.Perm (L ++ R) ∧ Srt S' ∧ TR w' base g n cap (A ++ (S' ++ C))) ∧ w.grownBy w' (some g)

def SymIH (base g n cap N : Nat) : Prop := ∀ (a m b : Nat) (A L R C : List Ton) (w : World), TR w base g n cap (A ++ (L ++ (R ++ C))) → A.length = a → a + L.length = m → m + R.length = b → 0 < L.length → 0 < R.length → L.length + R.length < N → Srt L → Srt R → SymTo base g n cap a m b A L R C w

set_option maxHeartbeats 8000000 in
theorem symC_any (base g n cap a m b : Nat) (A L R C : List Ton) (w : World) (h : TR w base g n cap (A ++ (L ++ (R ++ C)))) (hn : n ≤ 1000000) (ha : A.length = a) (hm : a + L.length = m) (hb : m + R.length = b) (hL1 : 1 < L.length) (hR1 : 1 < R.length) (hL : Srt L) (hR : Srt R)
    (ih : SymIH base g n cap (L.length + R.length)) : SymTo base g n cap a m b A L R C w := by
  unfold SymTo
  have IH := Lib.hid ih; clear ih
  have hln := h.len
  simp only [List.length_append] at hln
  have hcn : n ≤ cap := by rcases h.2.2 with ⟨e, _⟩ | ⟨g', cap', cur, e, _, _, h1, _⟩ <;> cases e; exact h1
  have hgb := h.lt.1
  have q1 : b ≤ n := by omega
  have q2 : a < m := by omega
  have q3 : m < b := by omega
  obtain ⟨mid, hmid⟩ : ∃ mid : Nat, mid = (a + b) / 2 := ⟨_, rfl⟩
  have q4 : a < mid := by omega
  have q5 : mid < b := by omega
  obtain ⟨M, hM⟩ : ∃ M : Nat, M = mid - a := ⟨_, rfl⟩
  have EM := Lib.hid (show ((a : Int) + (b : Int)) / 2 = (mid : Int) by omega)
  have q6 : m ≤ mid → M ≤ R.length ∧ L.length ≤ M := by omega
  have q7 : ¬ m ≤ mid → R.length ≤ M ∧ M < L.length := by omega
  have q8 : m ≤ mid ∨ b ≤ mid + m := by omega
  have HA := Lib.hid ha; have HB := Lib.hid hb; have HL := Lib.hid hL; have HR := Lib.hid hR; have E0 := Lib.hid hm; have HM := Lib.hid hM; have Q6 := Lib.hid q6; have Q7 := Lib.hid q7
  have dm : decide ((m : Int) - (a : Int) = 1) = false := by simp; omega
  have dm2 : (((m : Int) - (a : Int)) == 1) = false := by simp; omega
  have db : decide ((b : Int) - (m : Int) = 1) = false := by simp; omega
  have db2 : (((b : Int) - (m : Int)) == 1) = false := by simp; omega
  obtain ⟨n0, hn0⟩ : ∃ n0 : Nat, n0 = mid + m := ⟨_, rfl⟩
  obtain ⟨p0, hp0⟩ : ∃ p0 : Nat, p0 + 1 = n0 := ⟨n0 - 1, by omega⟩
  have EN := Lib.hid (show (mid : Int) + (m : Int) = (n0 : Int) by omega)
  have EP := Lib.hid (show (n0 : Int) - 1 = (p0 : Int) by omega)
  have HN := Lib.hid hn0; have HP := Lib.hid hp0
  clear hln ha hb hL hR hm hM hmid hL1 hR1 q6 q7 hn0 hp0
  by_cases hmm : m ≤ mid
  · have dmm : decide (((a : Int) + (b : Int)) / 2 < (m : Int)) = false := by rw [EM.out]; simp; omega
    go_enter Try.func30, Try.ntmps30
    go_wp2_with fail
    simp only [EM.out, EN.out, EP.out]
    go_loopw [20, 21] (fun i j wr => ∃ (lo hi : Nat), i = .int .i64 (lo : Int) ∧ j = .int .i64 (hi : Int) ∧ lo ≤ hi ∧ a ≤ lo ∧ hi ≤ mid ∧ hi ≤ m ∧ M - R.length ≤ lo - a ∧ loOk L R M (lo - a) ∧ hiOk L R M (hi - a) ∧ TR wr base g n cap (A ++ (L ++ (R ++ C))) ∧ w.grownBy wr (some g)) (fun i j _ => (intOf j - intOf i).toNat)
    case atStart => exact ⟨a, m, rfl, rfl, by omega, Nat.le_refl _, hmm, Nat.le_refl _, by have := Q6.out hmm; omega, Or.inl (by have := Q6.out hmm; omega), Or.inr (Or.inl (by have := E0.out; omega)), h, World.grownBy.refl _ _⟩
    case round =>
      obtain ⟨lo, hi, rfl, rfl, hlh, hal, hhm, hhm2, hlm, h1, h2, hT, hg⟩ := hrel
      have hE0 := E0.out
      have hB0 := HB.out
      have hM0 := HM.out
      have hn0 := HN.out
      have hp0 := HP.out
      by_cases hlt : lo < hi
      · obtain ⟨q, hq⟩ : ∃ q : Nat, q = (lo + hi) / 2 := ⟨_, rfl⟩
        obtain ⟨hq1, hq2⟩ := mid_bd hlt
        rw [← hq] at hq1 hq2
        have EQ := Lib.hid (show ((lo : Int) + (hi : Int)) / 2 = (q : Int) by omega)
        clear hq
        have hql : q - a < L.length := by omega
        obtain ⟨ix, hix⟩ : ∃ ix : Nat, ix = p0 - q := ⟨_, rfl⟩
        have hqr : M - 1 - (q - a) < R.length := by omega
        have hT1 := hT
        rw [formL A L (R ++ C) (q - a) hql] at hT1
        obtain ⟨c0, c1, c2⟩ := hT1.atM (k := q) (by rw [List.length_append, List.length_take, HA.out]; omega)
        have hT2 := hT
        rw [← List.append_assoc, formL (A ++ L) R C (M - 1 - (q - a)) hqr] at hT2
        obtain ⟨d0, d1, d2⟩ := hT2.atM (k := ix) (by rw [List.length_append, List.length_append, List.length_take, HA.out]; omega)
        have hlt' := hT.lt.2
        have w1' : IntKind.i64.wrap ((p0 : Int) - (q : Int)) = (ix : Int) := (IntWalk.i64_in _ (by omega)).trans (by omega)
        have b2 : (ix : Int) < (n : Int) := by omega
        have b3 : (q : Int) < (n : Int) := by omega
        obtain ⟨y, hy⟩ : ∃ y, y = R[M - 1 - (q - a)] := ⟨_, rfl⟩
        obtain ⟨x, hx⟩ : ∃ x, x = L[q - a] := ⟨_, rfl⟩
        rw [← hy] at d0 d1 d2
        rw [← hx] at c0 c1 c2
        have HX := Lib.hid hx; have HY := Lib.hid hy; have HT := Lib.hid hT; have H1 := Lib.hid h1; have H2 := Lib.hid h2; have HIX := Lib.hid hix; have HM0 := Lib.hid hM0; have HE0 := Lib.hid hE0; have HB0 := Lib.hid hB0; have HLM := Lib.hid hlm
        clear hn0 hp0 hT1 hT2 hT h1 h2 hx hy hix hM0 hE0 hB0 hlm
        by_cases hbx : before y x
        · have hc : decide (cmpT y x < 0) = true := by simpa using (cmpT_neg y x).2 hbx
          have hc2 : decide (0 ≤ cmpT y x) = false := by have := (cmpT_neg y x).2 hbx; simp; omega
          have HBf := Lib.hid hbx; clear hbx
          go_wp2_with fail
          simp only [EQ.out]
          refine wp_region_ordG [(0, 1), (1, 1), (2, 1), (3, 1), (4, 1), (5, 1), (6, 2), (7, 1), (8, 1), (9, 1), (10, 2), (11, 0), (12, 1), (13, 1)] [11] (none) (by kernel_rfl) (by kernel_rfl) ?_
          (repeat ((first | with_reducible refine wpOrdG_soft (fun K hK => ?_) | with_reducible refine wpOrdG_pre (fun K hK => ?_)); simp only [List.getElem?_toArray, List.getElem?_cons_zero, List.getElem?_cons_succ]; first | (go_simp; refine hK _ ?_) | (simp only [undef]; go_simp; refine hK _ ?_); clear hK K))
          (with_reducible refine wpOrdG_hard ?_; simp only [List.getElem?_toArray, List.getElem?_cons_zero, List.getElem?_cons_succ])
          go_wp2_with fail
          refine (compareTones_any y x _).mono ?_
          rintro e w1 ⟨rfl, hb1⟩
          go_wp2_with fail
          refine ⟨grown_of_below hb1, ?_⟩
          (repeat ((first | with_reducible refine wpOrdG_soft (fun K hK => ?_) | with_reducible refine wpOrdG_pre (fun K hK => ?_)); simp only [List.getElem?_toArray, List.getElem?_cons_zero, List.getElem?_cons_succ]; first | (go_simp; refine hK _ ?_) | (simp only [undef]; go_simp; refine hK _ ?_); clear hK K))
          (with_reducible refine wpOrdG_nil ?_); refine NoPanic.normal ?_
          have hb2 := undrew hb1
          clear w1'
          go_wp2
          go_roundw
          case rel =>
            have hm0 := HM0.out; have he0 := HE0.out
            refine ⟨lo, q, rfl, rfl, hq1, hal, by omega, by omega, HLM.out, H1.out, Or.inr (Or.inr ⟨hql, hqr, by omega, ?_⟩), HT.out.mono hb2, grown_trans hg (grown_row' hb2)⟩
            have h5 := HBf.out; rw [HX.out, HY.out] at h5; exact h5
          case measure => simp [intOf] <;> omega
        · have hc : decide (cmpT y x < 0) = false := by have : ¬ cmpT y x < 0 := fun h => hbx ((cmpT_neg y x).1 h); simp; omega
          have hc2 : decide (0 ≤ cmpT y x) = true := by have : ¬ cmpT y x < 0 := fun h => hbx ((cmpT_neg y x).1 h); simp; omega
          have HBf := Lib.hid hbx; clear hbx
          go_wp2_with fail
          simp only [EQ.out]
          refine wp_region_ordG [(0, 1), (1, 1), (2, 1), (3, 1), (4, 1), (5, 1), (6, 2), (7, 1), (8, 1), (9, 1), (10, 2), (11, 0), (12, 1), (13, 1)] [11] (none) (by kernel_rfl) (by kernel_rfl) ?_
          (repeat ((first | with_reducible refine wpOrdG_soft (fun K hK => ?_) | with_reducible refine wpOrdG_pre (fun K hK => ?_)); simp only [List.getElem?_toArray, List.getElem?_cons_zero, List.getElem?_cons_succ]; first | (go_simp; refine hK _ ?_) | (simp only [undef]; go_simp; refine hK _ ?_); clear hK K))
          (with_reducible refine wpOrdG_hard ?_; simp only [List.getElem?_toArray, List.getElem?_cons_zero, List.getElem?_cons_succ])
          go_wp2_with fail
          refine (compareTones_any y x _).mono ?_
          rintro e w1 ⟨rfl, hb1⟩
          go_wp2_with fail
          refine ⟨grown_of_below hb1, ?_⟩
          (repeat ((first | with_reducible refine wpOrdG_soft (fun K hK => ?_) | with_reducible refine wpOrdG_pre (fun K hK => ?_)); simp only [List.getElem?_toArray, List.getElem?_cons_zero, List.getElem?_cons_succ]; first | (go_simp; refine hK _ ?_) | (simp only [undef]; go_simp; refine hK _ ?_); clear hK K))
          (with_reducible refine wpOrdG_nil ?_); refine NoPanic.normal ?_
          have hb2 := undrew hb1
          clear w1'
          go_wp2
          go_roundw
          case rel =>
            have hm0 := HM0.out; have he0 := HE0.out
            refine ⟨q + 1, hi, by go_num, rfl, hq2, by omega, hhm, hhm2, by have := HLM.out; omega, Or.inr ?_, H2.out, HT.out.mono hb2, grown_trans hg (grown_row' hb2)⟩
            have e1 : q + 1 - a - 1 = q - a := by omega
            have e2 : M - (q + 1 - a) = M - 1 - (q - a) := by omega
            simp only [e1, e2]
            refine ⟨hql, hqr, by omega, ?_⟩
            have h5 := HBf.out; rw [HX.out, HY.out] at h5; exact h5
          case measure => simp [intOf] <;> omega
      · obtain rfl : lo = hi := by omega
        obtain ⟨L1, L2, R1, R2, l1, l2, l3, l4, s1, s2, s3, s4, he, hfin⟩ := sym_parts (A := A) (C := C) HL.out HR.out h1 h2 (by omega) (by omega) (by omega)
        rw [he] at hT
        obtain ⟨en, hen⟩ : ∃ en : Nat, en = mid + m - lo := ⟨_, rfl⟩
        have EE := Lib.hid (show (n0 : Int) - (lo : Int) = (en : Int) by omega)
        have hsum : L1.length + R1.length < L.length + R.length ∧ L2.length + R2.length < L.length + R.length := by omega
        have z1 : A.length + L1.length = lo := by rw [HA.out]; omega
        have z2 : lo + L2.length = m := by omega
        have z3 : m + R1.length = en := by omega
        have z4 : en + R2.length = b := by omega
        have z5 : lo + R1.length = mid := by omega
        have z6 : mid + L2.length = en := by omega
        have i1 : mid ≤ en := by omega
        have i2 : lo ≤ m := by omega
        have i3 : m ≤ en := by omega
        have i4 : lo ≤ mid := by omega
        have i5 : en ≤ b := by omega
        have i6 : lo ≤ n0 := by omega
        have i7 : n0 ≤ 3000000 := by omega
        have S1 := Lib.hid s1; have S2 := Lib.hid s2; have S3 := Lib.hid s3; have S4 := Lib.hid s4; have FN := Lib.hid hfin; have HS := Lib.hid hsum
        have Z1 := Lib.hid z1; have Z2 := Lib.hid z2; have Z3 := Lib.hid z3; have Z4 := Lib.hid z4; have Z5 := Lib.hid z5; have Z6 := Lib.hid z6
        have hT0 := Lib.hid hT
        clear l1 l2 l3 l4 s1 s2 s3 s4 he hfin hsum z1 z2 z3 z4 z5 z6 hT h1 h2 hE0 hB0 hM0 hen hn0 hp0
        have d9 : decide ((lo : Int) < (lo : Int)) = false := by simp
        by_cases r1 : lo < m
        · have f1 : decide ((lo : Int) < (m : Int)) = true := by simp; omega
          by_cases r2 : m < en
          · have f2 : decide ((m : Int) < (n0 : Int) - (lo : Int)) = true := by rw [EE.out]; simp; omega
            go_wp2_with fail
            simp only [EE.out]
            refine (rotate_any base g n cap lo m en (.func (.func 18) #[] #[]) (A ++ L1) L2 R1 (R2 ++ C) _ hT0.out hn (by rw [List.length_append]; exact Z1.out) (by rw [List.length_append, Z1.out]; exact Z2.out) (by rw [List.length_append, Z1.out]; have := Z2.out; have := Z3.out; omega) (by have := Z2.out; omega) (by have := Z3.out; omega)).mono ?_
            rintro e w1 ⟨rfl, hT1, hg1⟩
            have HT1 := Lib.hid hT1
            have hg := grown_trans hg hg1
            clear hT1 hg1
            by_cases r3 : a < lo
            · have f3 : decide ((a : Int) < (lo : Int)) = true := by simp; omega
              by_cases r4 : lo < mid
              · have f4 : decide ((lo : Int) < (mid : Int)) = true := by simp; omega
                go_wp2_with fail
                have cl := IH.out a lo mid A L1 R1 (L2 ++ (R2 ++ C)) _ (by have := HT1.out; rw [List.append_assoc] at this; exact this) HA.out (by have := Z1.out; rw [HA.out] at this; exact this) Z5.out (by have := Z1.out; have := HA.out; omega) (by have := Z5.out; omega) HS.out.1 S1.out S3.out
                unfold SymTo at cl
                refine cl.mono ?_
                rintro e w2 ⟨rfl, ⟨X1, p1, o1, hT2⟩, hg2⟩
                have HT2 := Lib.hid hT2; have P1 := Lib.hid p1; have O1 := Lib.hid o1
                have hg := grown_trans hg hg2
                clear hT2 hg2 p1 o1 cl
                by_cases r5 : mid < en
                · have f5 : decide ((mid : Int) < (en : Int)) = true := by simp; omega
                  have f5' : decide ((mid : Int) < (n0 : Int) - (lo : Int)) = true := by rw [EE.out]; simp; omega
                  by_cases r6 : en < b
                  · have f6 : decide ((en : Int) < (b : Int)) = true := by simp; omega
                    have f6' : decide ((n0 : Int) - (lo : Int) < (b : Int)) = true := by rw [EE.out]; simp; omega
                    go_wp2_with fail
                    try simp only [EE.out]
                    have cl := IH.out mid en b (A ++ X1) L2 R2 C _ (by have := HT2.out; rw [← List.append_assoc] at this; exact this) (by rw [List.length_append, P1.out.length_eq, List.length_append]; have := Z1.out; have := Z5.out; omega) Z6.out Z4.out (by have := Z6.out; omega) (by have := Z4.out; omega) HS.out.2 S2.out S4.out
                    unfold SymTo at cl
                    refine cl.mono ?_
                    rintro e w3 ⟨rfl, ⟨X2, p2, o2, hT3⟩, hg3⟩
                    have HT3 := Lib.hid hT3; have P2 := Lib.hid p2; have O2 := Lib.hid o2
                    have hg := grown_trans hg hg3
                    clear hT3 hg3 p2 o2 cl
                    go_wp2
                    go_end0
                    exact ⟨rfl, ⟨X1 ++ X2, (FN.out X1 X2 P1.out P2.out O1.out O2.out).1, (FN.out X1 X2 P1.out P2.out O1.out O2.out).2, by have := HT3.out; simp only [List.append_assoc] at this ⊢; exact this⟩, hg⟩
                  · have f6 : decide ((en : Int) < (b : Int)) = false := by simp; omega
                    have f6' : decide ((n0 : Int) - (lo : Int) < (b : Int)) = false := by rw [EE.out]; simp; omega
                    go_wp2
                    go_end0
                    have O2 : Srt (L2 ++ R2) := srt_two S2.out S4.out (Or.inr (by have := Z4.out; omega))
                    exact ⟨rfl, ⟨X1 ++ (L2 ++ R2), (FN.out X1 _ P1.out (List.Perm.refl _) O1.out O2).1, (FN.out X1 _ P1.out (List.Perm.refl _) O1.out O2).2, by have := HT2.out; simp only [List.append_assoc] at this ⊢; exact this⟩, hg⟩
                · have f5 : decide ((mid : Int) < (en : Int)) = false := by simp; omega
                  have f5' : decide ((mid : Int) < (n0 : Int) - (lo : Int)) = false := by rw [EE.out]; simp; omega
                  go_wp2
                  go_end0
                  have O2 : Srt (L2 ++ R2) := srt_two S2.out S4.out (Or.inl (by have := Z6.out; omega))
                  exact ⟨rfl, ⟨X1 ++ (L2 ++ R2), (FN.out X1 _ P1.out (List.Perm.refl _) O1.out O2).1, (FN.out X1 _ P1.out (List.Perm.refl _) O1.out O2).2, by have := HT2.out; simp only [List.append_assoc] at this ⊢; exact this⟩, hg⟩
              · have f4 : decide ((lo : Int) < (mid : Int)) = false := by simp; omega
                have HT2 := Lib.hid (show TR w1 base g n cap (A ++ ((L1 ++ R1) ++ (L2 ++ (R2 ++ C)))) by have := HT1.out; simp only [List.append_assoc] at this ⊢; exact this)
                obtain ⟨X1, hX1⟩ : ∃ X1, X1 = L1 ++ R1 := ⟨_, rfl⟩
                rw [← hX1] at HT2
                have P1 := Lib.hid (show X1.Perm (L1 ++ R1) by rw [hX1])
                have O1 := Lib.hid (show Srt X1 by rw [hX1]; exact srt_two S1.out S3.out (Or.inr (by have := Z5.out; omega)))
                clear hX1
                by_cases r5 : mid < en
                · have f5 : decide ((mid : Int) < (en : Int)) = true := by simp; omega
                  have f5' : decide ((mid : Int) < (n0 : Int) - (lo : Int)) = true := by rw [EE.out]; simp; omega
                  by_cases r6 : en < b
                  · have f6 : decide ((en : Int) < (b : Int)) = true := by simp; omega
                    have f6' : decide ((n0 : Int) - (lo : Int) < (b : Int)) = true := by rw [EE.out]; simp; omega
                    go_wp2_with fail
                    try simp only [EE.out]
                    have cl := IH.out mid en b (A ++ X1) L2 R2 C _ (by have := HT2.out; rw [← List.append_assoc] at this; exact this) (by rw [List.length_append, P1.out.length_eq, List.length_append]; have := Z1.out; have := Z5.out; omega) Z6.out Z4.out (by have := Z6.out; omega) (by have := Z4.out; omega) HS.out.2 S2.out S4.out
                    unfold SymTo at cl
                    refine cl.mono ?_
                    rintro e w3 ⟨rfl, ⟨X2, p2, o2, hT3⟩, hg3⟩
                    have HT3 := Lib.hid hT3; have P2 := Lib.hid p2; have O2 := Lib.hid o2
                    have hg := grown_trans hg hg3
                    clear hT3 hg3 p2 o2 cl
                    go_wp2
                    go_end0
                    exact ⟨rfl, ⟨X1 ++ X2, (FN.out X1 X2 P1.out P2.out O1.out O2.out).1, (FN.out X1 X2 P1.out P2.out O1.out O2.out).2, by have := HT3.out; simp only [List.append_assoc] at this ⊢; exact this⟩, hg⟩
                  · have f6 : decide ((en : Int) < (b : Int)) = false := by simp; omega
                    have f6' : decide ((n0 : Int) - (lo : Int) < (b : Int)) = false := by rw [EE.out]; simp; omega
                    go_wp2
                    go_end0
                    have O2 : Srt (L2 ++ R2) := srt_two S2.out S4.out (Or.inr (by have := Z4.out; omega))
                    exact ⟨rfl, ⟨X1 ++ (L2 ++ R2), (FN.out X1 _ P1.out (List.Perm.refl _) O1.out O2).1, (FN.out X1 _ P1.out (List.Perm.refl _) O1.out O2).2, by have := HT2.out; simp only [List.append_assoc] at this ⊢; exact this⟩, hg⟩
                · have f5 : decide ((mid : Int) < (en : Int)) = false := by simp; omega
                  have f5' : decide ((mid : Int) < (n0 : Int) - (lo : Int)) = false := by rw [EE.out]; simp; omega
                  go_wp2
                  go_end0
                  have O2 : Srt (L2 ++ R2) := srt_two S2.out S4.out (Or.inl (by have := Z6.out; omega))
                  exact ⟨rfl, ⟨X1 ++ (L2 ++ R2), (FN.out X1 _ P1.out (List.Perm.refl _) O1.out O2).1, (FN.out X1 _ P1.out (List.Perm.refl _) O1.out O2).2, by have := HT2.out; simp only [List.append_assoc] at this ⊢; exact this⟩, hg⟩
            · have f3 : decide ((a : Int) < (lo : Int)) = false := by simp; omega
              have HT2 := Lib.hid (show TR w1 base g n cap (A ++ ((L1 ++ R1) ++ (L2 ++ (R2 ++ C)))) by have := HT1.out; simp only [List.append_assoc] at this ⊢; exact this)
              obtain ⟨X1, hX1⟩ : ∃ X1, X1 = L1 ++ R1 := ⟨_, rfl⟩
              rw [← hX1] at HT2
              have P1 := Lib.hid (show X1.Perm (L1 ++ R1) by rw [hX1])
              have O1 := Lib.hid (show Srt X1 by rw [hX1]; exact srt_two S1.out S3.out (Or.inl (by have := Z1.out; have := HA.out; omega)))
              clear hX1
              by_cases r5 : mid < en
              · have f5 : decide ((mid : Int) < (en : Int)) = true := by simp; omega
                have f5' : decide ((mid : Int) < (n0 : Int) - (lo : Int)) = true := by rw [EE.out]; simp; omega
                by_cases r6 : en < b
                · have f6 : decide ((en : Int) < (b : Int)) = true := by simp; omega
                  have f6' : decide ((n0 : Int) - (lo : Int) < (b : Int)) = true := by rw [EE.out]; simp; omega
                  go_wp2_with fail
                  try simp only [EE.out]
                  have cl := IH.out mid en b (A ++ X1) L2 R2 C _ (by have := HT2.out; rw [← List.append_assoc] at this; exact this) (by rw [List.length_append, P1.out.length_eq, List.length_append]; have := Z1.out; have := Z5.out; omega) Z6.out Z4.out (by have := Z6.out; omega) (by have := Z4.out; omega) HS.out.2 S2.out S4.out
                  unfold SymTo at cl
                  refine cl.mono ?_
                  rintro e w3 ⟨rfl, ⟨X2, p2, o2, hT3⟩, hg3⟩
                  have HT3 := Lib.hid hT3; have P2 := Lib.hid p2; have O2 := Lib.hid o2
                  have hg := grown_trans hg hg3
                  clear hT3 hg3 p2 o2 cl
                  go_wp2
                  go_end0
                  exact ⟨rfl, ⟨X1 ++ X2, (FN.out X1 X2 P1.out P2.out O1.out O2.out).1, (FN.out X1 X2 P1.out P2.out O1.out O2.out).2, by have := HT3.out; simp only [List.append_assoc] at this ⊢; exact this⟩, hg⟩
                · have f6 : decide ((en : Int) < (b : Int)) = false := by simp; omega
                  have f6' : decide ((n0 : Int) - (lo : Int) < (b : Int)) = false := by rw [EE.out]; simp; omega
                  go_wp2
                  go_end0
                  have O2 : Srt (L2 ++ R2) := srt_two S2.out S4.out (Or.inr (by have := Z4.out; omega))
                  exact ⟨rfl, ⟨X1 ++ (L2 ++ R2), (FN.out X1 _ P1.out (List.Perm.refl _) O1.out O2).1, (FN.out X1 _ P1.out (List.Perm.refl _) O1.out O2).2, by have := HT2.out; simp only [List.append_assoc] at this ⊢; exact this⟩, hg⟩
              · have f5 : decide ((mid : Int) < (en : Int)) = false := by simp; omega
                have f5' : decide ((mid : Int) < (n0 : Int) - (lo : Int)) = false := by rw [EE.out]; simp; omega
                go_wp2
                go_end0
                have O2 : Srt (L2 ++ R2) := srt_two S2.out S4.out (Or.inl (by have := Z6.out; omega))
                exact ⟨rfl, ⟨X1 ++ (L2 ++ R2), (FN.out X1 _ P1.out (List.Perm.refl _) O1.out O2).1, (FN.out X1 _ P1.out (List.Perm.refl _) O1.out O2).2, by have := HT2.out; simp only [List.append_assoc] at this ⊢; exact this⟩, hg⟩
          · have f2 : decide ((m : Int) < (n0 : Int) - (lo : Int)) = false := by rw [EE.out]; simp; omega
            have HT1 := Lib.hid (show TR wr base g n cap ((A ++ L1) ++ (R1 ++ (L2 ++ (R2 ++ C)))) by rw [← sym_swap0 A L2 R1 L1 (R2 ++ C) (Or.inr (by have := Z3.out; omega))]; exact hT0.out)
            by_cases r3 : a < lo
            · have f3 : decide ((a : Int) < (lo : Int)) = true := by simp; omega
              by_cases r4 : lo < mid
              · have f4 : decide ((lo : Int) < (mid : Int)) = true := by simp; omega
                go_wp2_with fail
                have cl := IH.out a lo mid A L1 R1 (L2 ++ (R2 ++ C)) _ (by have := HT1.out; rw [List.append_assoc] at this; exact this) HA.out (by have := Z1.out; rw [HA.out] at this; exact this) Z5.out (by have := Z1.out; have := HA.out; omega) (by have := Z5.out; omega) HS.out.1 S1.out S3.out
                unfold SymTo at cl
                refine cl.mono ?_
                rintro e w2 ⟨rfl, ⟨X1, p1, o1, hT2⟩, hg2⟩
                have HT2 := Lib.hid hT2; have P1 := Lib.hid p1; have O1 := Lib.hid o1
                have hg := grown_trans hg hg2
                clear hT2 hg2 p1 o1 cl
                by_cases r5 : mid < en
                · have f5 : decide ((mid : Int) < (en : Int)) = true := by simp; omega
                  have f5' : decide ((mid : Int) < (n0 : Int) - (lo : Int)) = true := by rw [EE.out]; simp; omega
                  by_cases r6 : en < b
                  · have f6 : decide ((en : Int) < (b : Int)) = true := by simp; omega
                    have f6' : decide ((n0 : Int) - (lo : Int) < (b : Int)) = true := by rw [EE.out]; simp; omega
                    go_wp2_with fail
                    try simp only [EE.out]
                    have cl := IH.out mid en b (A ++ X1) L2 R2 C _ (by have := HT2.out; rw [← List.append_assoc] at this; exact this) (by rw [List.length_append, P1.out.length_eq, List.length_append]; have := Z1.out; have := Z5.out; omega) Z6.out Z4.out (by have := Z6.out; omega) (by have := Z4.out; omega) HS.out.2 S2.out S4.out
                    unfold SymTo at cl
                    refine cl.mono ?_
                    rintro e w3 ⟨rfl, ⟨X2, p2, o2, hT3⟩, hg3⟩
                    have HT3 := Lib.hid hT3; have P2 := Lib.hid p2; have O2 := Lib.hid o2
                    have hg := grown_trans hg hg3
                    clear hT3 hg3 p2 o2 cl
                    go_wp2
                    go_end0
                    exact ⟨rfl, ⟨X1 ++ X2, (FN.out X1 X2 P1.out P2.out O1.out O2.out).1, (FN.out X1 X2 P1.out P2.out O1.out O2.out).2, by have := HT3.out; simp only [List.append_assoc] at this ⊢; exact this⟩, hg⟩
                  · have f6 : decide ((en : Int) < (b : Int)) = false := by simp; omega
                    have f6' : decide ((n0 : Int) - (lo : Int) < (b : Int)) = false := by rw [EE.out]; simp; omega
                    go_wp2
                    go_end0
                    have O2 : Srt (L2 ++ R2) := srt_two S2.out S4.out (Or.inr (by have := Z4.out; omega))
                    exact ⟨rfl, ⟨X1 ++ (L2 ++ R2), (FN.out X1 _ P1.out (List.Perm.refl _) O1.out O2).1, (FN.out X1 _ P1.out (List.Perm.refl _) O1.out O2).2, by have := HT2.out; simp only [List.append_assoc] at this ⊢; exact this⟩, hg⟩
                · have f5 : decide ((mid : Int) < (en : Int)) = false := by simp; omega
                  have f5' : decide ((mid : Int) < (n0 : Int) - (lo : Int)) = false := by rw [EE.out]; simp; omega
                  go_wp2
                  go_end0
                  have O2 : Srt (L2 ++ R2) := srt_two S2.out S4.out (Or.inl (by have := Z6.out; omega))
                  exact ⟨rfl, ⟨X1 ++ (L2 ++ R2), (FN.out X1 _ P1.out (List.Perm.refl _) O1.out O2).1, (FN.out X1 _ P1.out (List.Perm.refl _) O1.out O2).2, by have := HT2.out; simp only [List.append_assoc] at this ⊢; exact this⟩, hg⟩
              · have f4 : decide ((lo : Int) < (mid : Int)) = false := by simp; omega
                have HT2 := Lib.hid (show TR wr base g n cap (A ++ ((L1 ++ R1) ++ (L2 ++ (R2 ++ C)))) by have := HT1.out; simp only [List.append_assoc] at this ⊢; exact this)
                obtain ⟨X1, hX1⟩ : ∃ X1, X1 = L1 ++ R1 := ⟨_, rfl⟩
                rw [← hX1] at HT2
                have P1 := Lib.hid (show X1.Perm (L1 ++ R1) by rw [hX1])
                have O1 := Lib.hid (show Srt X1 by rw [hX1]; exact srt_two S1.out S3.out (Or.inr (by have := Z5.out; omega)))
                clear hX1
                by_cases r5 : mid < en
                · have f5 : decide ((mid : Int) < (en : Int)) = true := by simp; omega
                  have f5' : decide ((mid : Int) < (n0 : Int) - (lo : Int)) = true := by rw [EE.out]; simp; omega
                  by_cases r6 : en < b
                  · have f6 : decide ((en : Int) < (b : Int)) = true := by simp; omega
                    have f6' : decide ((n0 : Int) - (lo : Int) < (b : Int)) = true := by rw [EE.out]; simp; omega
                    go_wp2_with fail
                    try simp only [EE.out]
                    have cl := IH.out mid en b (A ++ X1) L2 R2 C _ (by have := HT2.out; rw [← List.append_assoc] at this; exact this) (by rw [List.length_append, P1.out.length_eq, List.length_append]; have := Z1.out; have := Z5.out; omega) Z6.out Z4.out (by have := Z6.out; omega) (by have := Z4.out; omega) HS.out.2 S2.out S4.out
                    unfold SymTo at cl
                    refine cl.mono ?_
                    rintro e w3 ⟨rfl, ⟨X2, p2, o2, hT3⟩, hg3⟩
                    have HT3 := Lib.hid hT3; have P2 := Lib.hid p2; have O2 := Lib.hid o2
                    have hg := grown_trans hg hg3
                    clear hT3 hg3 p2 o2 cl
                    go_wp2
                    go_end0
                    exact ⟨rfl, ⟨X1 ++ X2, (FN.out X1 X2 P1.out P2.out O1.out O2.out).1, (FN.out X1 X2 P1.out P2.out O1.out O2.out).2, by have := HT3.out; simp only [List.append_assoc] at this ⊢; exact this⟩, hg⟩
                  · have f6 : decide ((en : Int) < (b : Int)) = false := by simp; omega
                    have f6' : decide ((n0 : Int) - (lo : Int) < (b : Int)) = false := by rw [EE.out]; simp; omega
                    go_wp2
                    go_end0
                    have O2 : Srt (L2 ++ R2) := srt_two S2.out S4.out (Or.inr (by have := Z4.out; omega))
                    exact ⟨rfl, ⟨X1 ++ (L2 ++ R2), (FN.out X1 _ P1.out (List.Perm.refl _) O1.out O2).1, (FN.out X1 _ P1.out (List.Perm.refl _) O1.out O2).2, by have := HT2.out; simp only [List.append_assoc] at this ⊢; exact this⟩, hg⟩
                · have f5 : decide ((mid : Int) < (en : Int)) = false := by simp; omega
                  have f5' : decide ((mid : Int) < (n0 : Int) - (lo : Int)) = false := by rw [EE.out]; simp; omega
                  go_wp2
                  go_end0
                  have O2 : Srt (L2 ++ R2) := srt_two S2.out S4.out (Or.inl (by have := Z6.out; omega))
                  exact ⟨rfl, ⟨X1 ++ (L2 ++ R2), (FN.out X1 _ P1.out (List.Perm.refl _) O1.out O2).1, (FN.out X1 _ P1.out (List.Perm.refl _) O1.out O2).2, by have := HT2.out; simp only [List.append_assoc] at this ⊢; exact this⟩, hg⟩
            · have f3 : decide ((a : Int) < (lo : Int)) = false := by simp; omega
              have HT2 := Lib.hid (show TR wr base g n cap (A ++ ((L1 ++ R1) ++ (L2 ++ (R2 ++ C)))) by have := HT1.out; simp only [List.append_assoc] at this ⊢; exact this)
              obtain ⟨X1, hX1⟩ : ∃ X1, X1 = L1 ++ R1 := ⟨_, rfl⟩
              rw [← hX1] at HT2
              have P1 := Lib.hid (show X1.Perm (L1 ++ R1) by rw [hX1])
              have O1 := Lib.hid (show Srt X1 by rw [hX1]; exact srt_two S1.out S3.out (Or.inl (by have := Z1.out; have := HA.out; omega)))
              clear hX1
              by_cases r5 : mid < en
              · have f5 : decide ((mid : Int) < (en : Int)) = true := by simp; omega
                have f5' : decide ((mid : Int) < (n0 : Int) - (lo : Int)) = true := by rw [EE.out]; simp; omega
                by_cases r6 : en < b
                · have f6 : decide ((en : Int) < (b : Int)) = true := by simp; omega
                  have f6' : decide ((n0 : Int) - (lo : Int) < (b : Int)) = true := by rw [EE.out]; simp; omega
                  go_wp2_with fail
                  try simp only [EE.out]
                  have cl := IH.out mid en b (A ++ X1) L2 R2 C _ (by have := HT2.out; rw [← List.append_assoc] at this; exact this) (by rw [List.length_append, P1.out.length_eq, List.length_append]; have := Z1.out; have := Z5.out; omega) Z6.out Z4.out (by have := Z6.out; omega) (by have := Z4.out; omega) HS.out.2 S2.out S4.out
                  unfold SymTo at cl
                  refine cl.mono ?_
                  rintro e w3 ⟨rfl, ⟨X2, p2, o2, hT3⟩, hg3⟩
                  have HT3 := Lib.hid hT3; have P2 := Lib.hid p2; have O2 := Lib.hid o2
                  have hg := grown_trans hg hg3
                  clear hT3 hg3 p2 o2 cl
                  go_wp2
                  go_end0
                  exact ⟨rfl, ⟨X1 ++ X2, (FN.out X1 X2 P1.out P2.out O1.out O2.out).1, (FN.out X1 X2 P1.out P2.out O1.out O2.out).2, by have := HT3.out; simp only [List.append_assoc] at this ⊢; exact this⟩, hg⟩
                · have f6 : decide ((en : Int) < (b : Int)) = false := by simp; omega
                  have f6' : decide ((n0 : Int) - (lo : Int) < (b : Int)) = false := by rw [EE.out]; simp; omega
                  go_wp2
                  go_end0
                  have O2 : Srt (L2 ++ R2) := srt_two S2.out S4.out (Or.inr (by have := Z4.out; omega))
                  exact ⟨rfl, ⟨X1 ++ (L2 ++ R2), (FN.out X1 _ P1.out (List.Perm.refl _) O1.out O2).1, (FN.out X1 _ P1.out (List.Perm.refl _) O1.out O2).2, by have := HT2.out; simp only [List.append_assoc] at this ⊢; exact this⟩, hg⟩
              · have f5 : decide ((mid : Int) < (en : Int)) = false := by simp; omega
                have f5' : decide ((mid : Int) < (n0 : Int) - (lo : Int)) = false := by rw [EE.out]; simp; omega
                go_wp2
                go_end0
                have O2 : Srt (L2 ++ R2) := srt_two S2.out S4.out (Or.inl (by have := Z6.out; omega))
                exact ⟨rfl, ⟨X1 ++ (L2 ++ R2), (FN.out X1 _ P1.out (List.Perm.refl _) O1.out O2).1, (FN.out X1 _ P1.out (List.Perm.refl _) O1.out O2).2, by have := HT2.out; simp only [List.append_assoc] at this ⊢; exact this⟩, hg⟩
        · have f1 : decide ((lo : Int) < (m : Int)) = false := by simp; omega
          have HT1 := Lib.hid (show TR wr base g n cap ((A ++ L1) ++ (R1 ++ (L2 ++ (R2 ++ C)))) by rw [← sym_swap0 A L2 R1 L1 (R2 ++ C) (Or.inl (by have := Z2.out; omega))]; exact hT0.out)
          by_cases r3 : a < lo
          · have f3 : decide ((a : Int) < (lo : Int)) = true := by simp; omega
            by_cases r4 : lo < mid
            · have f4 : decide ((lo : Int) < (mid : Int)) = true := by simp; omega
              go_wp2_with fail
              have cl := IH.out a lo mid A L1 R1 (L2 ++ (R2 ++ C)) _ (by have := HT1.out; rw [List.append_assoc] at this; exact this) HA.out (by have := Z1.out; rw [HA.out] at this; exact this) Z5.out (by have := Z1.out; have := HA.out; omega) (by have := Z5.out; omega) HS.out.1 S1.out S3.out
              unfold SymTo at cl
              refine cl.mono ?_
              rintro e w2 ⟨rfl, ⟨X1, p1, o1, hT2⟩, hg2⟩
              have HT2 := Lib.hid hT2; have P1 := Lib.hid p1; have O1 := Lib.hid o1
              have hg := grown_trans hg hg2
              clear hT2 hg2 p1 o1 cl
              by_cases r5 : mid < en
              · have f5 : decide ((mid : Int) < (en : Int)) = true := by simp; omega
                have f5' : decide ((mid : Int) < (n0 : Int) - (lo : Int)) = true := by rw [EE.out]; simp; omega
                by_cases r6 : en < b
                · have f6 : decide ((en : Int) < (b : Int)) = true := by simp; omega
                  have f6' : decide ((n0 : Int) - (lo : Int) < (b : Int)) = true := by rw [EE.out]; simp; omega
                  go_wp2_with fail
                  try simp only [EE.out]
                  have cl := IH.out mid en b (A ++ X1) L2 R2 C _ (by have := HT2.out; rw [← List.append_assoc] at this; exact this) (by rw [List.length_append, P1.out.length_eq, List.length_append]; have := Z1.out; have := Z5.out; omega) Z6.out Z4.out (by have := Z6.out; omega) (by have := Z4.out; omega) HS.out.2 S2.out S4.out
                  unfold SymTo at cl
                  refine cl.mono ?_
                  rintro e w3 ⟨rfl, ⟨X2, p2, o2, hT3⟩, hg3⟩
                  have HT3 := Lib.hid hT3; have P2 := Lib.hid p2; have O2 := Lib.hid o2
                  have hg := grown_trans hg hg3
                  clear hT3 hg3 p2 o2 cl
                  go_wp2
                  go_end0
                  exact ⟨rfl, ⟨X1 ++ X2, (FN.out X1 X2 P1.out P2.out O1.out O2.out).1, (FN.out X1 X2 P1.out P2.out O1.out O2.out).2, by have := HT3.out; simp only [List.append_assoc] at this ⊢; exact this⟩, hg⟩
                · have f6 : decide ((en : Int) < (b : Int)) = false := by simp; omega
                  have f6' : decide ((n0 : Int) - (lo : Int) < (b : Int)) = false := by rw [EE.out]; simp; omega
                  go_wp2
                  go_end0
                  have O2 : Srt (L2 ++ R2) := srt_two S2.out S4.out (Or.inr (by have := Z4.out; omega))
                  exact ⟨rfl, ⟨X1 ++ (L2 ++ R2), (FN.out X1 _ P1.out (List.Perm.refl _) O1.out O2).1, (FN.out X1 _ P1.out (List.Perm.refl _) O1.out O2).2, by have := HT2.out; simp only [List.append_assoc] at this ⊢; exact this⟩, hg⟩
              · have f5 : decide ((mid : Int) < (en : Int)) = false := by simp; omega
                have f5' : decide ((mid : Int) < (n0 : Int) - (lo : Int)) = false := by rw [EE.out]; simp; omega
                go_wp2
                go_end0
                have O2 : Srt (L2 ++ R2) := srt_two S2.out S4.out (Or.inl (by have := Z6.out; omega))
                exact ⟨rfl, ⟨X1 ++ (L2 ++ R2), (FN.out X1 _ P1.out (List.Perm.refl _) O1.out O2).1, (FN.out X1 _ P1.out (List.Perm.refl _) O1.out O2).2, by have := HT2.out; simp only [List.append_assoc] at this ⊢; exact this⟩, hg⟩
            · have f4 : decide ((lo : Int) < (mid : Int)) = false := by simp; omega
              have HT2 := Lib.hid (show TR wr base g n cap (A ++ ((L1 ++ R1) ++ (L2 ++ (R2 ++ C)))) by have := HT1.out; simp only [List.append_assoc] at this ⊢; exact this)
              obtain ⟨X1, hX1⟩ : ∃ X1, X1 = L1 ++ R1 := ⟨_, rfl⟩
              rw [← hX1] at HT2
              have P1 := Lib.hid (show X1.Perm (L1 ++ R1) by rw [hX1])
              have O1 := Lib.hid (show Srt X1 by rw [hX1]; exact srt_two S1.out S3.out (Or.inr (by have := Z5.out; omega)))
              clear hX1
              by_cases r5 : mid < en
              · have f5 : decide ((mid : Int) < (en : Int)) = true := by simp; omega
                have f5' : decide ((mid : Int) < (n0 : Int) - (lo : Int)) = true := by rw [EE.out]; simp; omega
                by_cases r6 : en < b
                · have f6 : decide ((en : Int) < (b : Int)) = true := by simp; omega
                  have f6' : decide ((n0 : Int) - (lo : Int) < (b : Int)) = true := by rw [EE.out]; simp; omega
                  go_wp2_with fail
                  try simp only [EE.out]
                  have cl := IH.out mid en b (A ++ X1) L2 R2 C _ (by have := HT2.out; rw [← List.append_assoc] at this; exact this) (by rw [List.length_append, P1.out.length_eq, List.length_append]; have := Z1.out; have := Z5.out; omega) Z6.out Z4.out (by have := Z6.out; omega) (by have := Z4.out; omega) HS.out.2 S2.out S4.out
                  unfold SymTo at cl
                  refine cl.mono ?_
                  rintro e w3 ⟨rfl, ⟨X2, p2, o2, hT3⟩, hg3⟩
                  have HT3 := Lib.hid hT3; have P2 := Lib.hid p2; have O2 := Lib.hid o2
                  have hg := grown_trans hg hg3
                  clear hT3 hg3 p2 o2 cl
                  go_wp2
                  go_end0
                  exact ⟨rfl, ⟨X1 ++ X2, (FN.out X1 X2 P1.out P2.out O1.out O2.out).1, (FN.out X1 X2 P1.out P2.out O1.out O2.out).2, by have := HT3.out; simp only [List.append_assoc] at this ⊢; exact this⟩, hg⟩
                · have f6 : decide ((en : Int) < (b : Int)) = false := by simp; omega
                  have f6' : decide ((n0 : Int) - (lo : Int) < (b : Int)) = false := by rw [EE.out]; simp; omega
                  go_wp2
                  go_end0
                  have O2 : Srt (L2 ++ R2) := srt_two S2.out S4.out (Or.inr (by have := Z4.out; omega))
                  exact ⟨rfl, ⟨X1 ++ (L2 ++ R2), (FN.out X1 _ P1.out (List.Perm.refl _) O1.out O2).1, (FN.out X1 _ P1.out (List.Perm.refl _) O1.out O2).2, by have := HT2.out; simp only [List.append_assoc] at this ⊢; exact this⟩, hg⟩
              · have f5 : decide ((mid : Int) < (en : Int)) = false := by simp; omega
                have f5' : decide ((mid : Int) < (n0 : Int) - (lo : Int)) = false := by rw [EE.out]; simp; omega
                go_wp2
                go_end0
                have O2 : Srt (L2 ++ R2) := srt_two S2.out S4.out (Or.inl (by have := Z6.out; omega))
                exact ⟨rfl, ⟨X1 ++ (L2 ++ R2), (FN.out X1 _ P1.out (List.Perm.refl _) O1.out O2).1, (FN.out X1 _ P1.out (List.Perm.refl _) O1.out O2).2, by have := HT2.out; simp only [List.append_assoc] at this ⊢; exact this⟩, hg⟩
          · have f3 : decide ((a : Int) < (lo : Int)) = false := by simp; omega
            have HT2 := Lib.hid (show TR wr base g n cap (A ++ ((L1 ++ R1) ++ (L2 ++ (R2 ++ C)))) by have := HT1.out; simp only [List.append_assoc] at this ⊢; exact this)
            obtain ⟨X1, hX1⟩ : ∃ X1, X1 = L1 ++ R1 := ⟨_, rfl⟩
            rw [← hX1] at HT2
            have P1 := Lib.hid (show X1.Perm (L1 ++ R1) by rw [hX1])
            have O1 := Lib.hid (show Srt X1 by rw [hX1]; exact srt_two S1.out S3.out (Or.inl (by have := Z1.out; have := HA.out; omega)))
            clear hX1
            by_cases r5 : mid < en
            · have f5 : decide ((mid : Int) < (en : Int)) = true := by simp; omega
              have f5' : decide ((mid : Int) < (n0 : Int) - (lo : Int)) = true := by rw [EE.out]; simp; omega
              by_cases r6 : en < b
              · have f6 : decide ((en : Int) < (b : Int)) = true := by simp; omega
                have f6' : decide ((n0 : Int) - (lo : Int) < (b : Int)) = true := by rw [EE.out]; simp; omega
                go_wp2_with fail
                try simp only [EE.out]
                have cl := IH.out mid en b (A ++ X1) L2 R2 C _ (by have := HT2.out; rw [← List.append_assoc] at this; exact this) (by rw [List.length_append, P1.out.length_eq, List.length_append]; have := Z1.out; have := Z5.out; omega) Z6.out Z4.out (by have := Z6.out; omega) (by have := Z4.out; omega) HS.out.2 S2.out S4.out
                unfold SymTo at cl
                refine cl.mono ?_
                rintro e w3 ⟨rfl, ⟨X2, p2, o2, hT3⟩, hg3⟩
                have HT3 := Lib.hid hT3; have P2 := Lib.hid p2; have O2 := Lib.hid o2
                have hg := grown_trans hg hg3
                clear hT3 hg3 p2 o2 cl
                go_wp2
                go_end0
                exact ⟨rfl, ⟨X1 ++ X2, (FN.out X1 X2 P1.out P2.out O1.out O2.out).1, (FN.out X1 X2 P1.out P2.out O1.out O2.out).2, by have := HT3.out; simp only [List.append_assoc] at this ⊢; exact this⟩, hg⟩
              · have f6 : decide ((en : Int) < (b : Int)) = false := by simp; omega
                have f6' : decide ((n0 : Int) - (lo : Int) < (b : Int)) = false := by rw [EE.out]; simp; omega
                go_wp2
                go_end0
                have O2 : Srt (L2 ++ R2) := srt_two S2.out S4.out (Or.inr (by have := Z4.out; omega))
                exact ⟨rfl, ⟨X1 ++ (L2 ++ R2), (FN.out X1 _ P1.out (List.Perm.refl _) O1.out O2).1, (FN.out X1 _ P1.out (List.Perm.refl _) O1.out O2).2, by have := HT2.out; simp only [List.append_assoc] at this ⊢; exact this⟩, hg⟩
            · have f5 : decide ((mid : Int) < (en : Int)) = false := by simp; omega
              have f5' : decide ((mid : Int) < (n0 : Int) - (lo : Int)) = false := by rw [EE.out]; simp; omega
              go_wp2
              go_end0
              have O2 : Srt (L2 ++ R2) := srt_two S2.out S4.out (Or.inl (by have := Z6.out; omega))
              exact ⟨rfl, ⟨X1 ++ (L2 ++ R2), (FN.out X1 _ P1.out (List.Perm.refl _) O1.out O2).1, (FN.out X1 _ P1.out (List.Perm.refl _) O1.out O2).2, by have := HT2.out; simp only [List.append_assoc] at this ⊢; exact this⟩, hg⟩
  · have dmm : decide (((a : Int) + (b : Int)) / 2 < (m : Int)) = true := by rw [EM.out]; simp; omega
    go_enter Try.func30, Try.ntmps30
    go_wp2_with fail
    simp only [EM.out, EN.out, EP.out]
    go_loopw [20, 21] (fun i j wr => ∃ (lo hi : Nat), i = .int .i64 (lo : Int) ∧ j = .int .i64 (hi : Int) ∧ lo ≤ hi ∧ a ≤ lo ∧ hi ≤ mid ∧ hi ≤ m ∧ M - R.length ≤ lo - a ∧ loOk L R M (lo - a) ∧ hiOk L R M (hi - a) ∧ TR wr base g n cap (A ++ (L ++ (R ++ C))) ∧ w.grownBy wr (some g)) (fun i j _ => (intOf j - intOf i).toNat)
    case atStart => exact ⟨mid + m - b, mid, by have := HN.out; congr 1; omega, rfl, by omega, by have := Q7.out hmm; have := HB.out; have := HM.out; have := E0.out; omega, Nat.le_refl _, by omega, by have := Q7.out hmm; have := HB.out; have := HM.out; have := E0.out; omega, Or.inl (by have := Q7.out hmm; have := HB.out; have := HM.out; have := E0.out; omega), Or.inl (by have := HM.out; omega), h, World.grownBy.refl _ _⟩
    case round =>
      obtain ⟨lo, hi, rfl, rfl, hlh, hal, hhm, hhm2, hlm, h1, h2, hT, hg⟩ := hrel
      have hE0 := E0.out
      have hB0 := HB.out
      have hM0 := HM.out
      have hn0 := HN.out
      have hp0 := HP.out
      by_cases hlt : lo < hi
      · obtain ⟨q, hq⟩ : ∃ q : Nat, q = (lo + hi) / 2 := ⟨_, rfl⟩
        obtain ⟨hq1, hq2⟩ := mid_bd hlt
        rw [← hq] at hq1 hq2
        have EQ := Lib.hid (show ((lo : Int) + (hi : Int)) / 2 = (q : Int) by omega)
        clear hq
        have hql : q - a < L.length := by omega
        obtain ⟨ix, hix⟩ : ∃ ix : Nat, ix = p0 - q := ⟨_, rfl⟩
        have hqr : M - 1 - (q - a) < R.length := by omega
        have hT1 := hT
        rw [formL A L (R ++ C) (q - a) hql] at hT1
        obtain ⟨c0, c1, c2⟩ := hT1.atM (k := q) (by rw [List.length_append, List.length_take, HA.out]; omega)
        have hT2 := hT
        rw [← List.append_assoc, formL (A ++ L) R C (M - 1 - (q - a)) hqr] at hT2
        obtain ⟨d0, d1, d2⟩ := hT2.atM (k := ix) (by rw [List.length_append, List.length_append, List.length_take, HA.out]; omega)
        have hlt' := hT.lt.2
        have w1' : IntKind.i64.wrap ((p0 : Int) - (q : Int)) = (ix : Int) := (IntWalk.i64_in _ (by omega)).trans (by omega)
        have b2 : (ix : Int) < (n : Int) := by omega
        have b3 : (q : Int) < (n : Int) := by omega
        obtain ⟨y, hy⟩ : ∃ y, y = R[M - 1 - (q - a)] := ⟨_, rfl⟩
        obtain ⟨x, hx⟩ : ∃ x, x = L[q - a] := ⟨_, rfl⟩
        rw [← hy] at d0 d1 d2
        rw [← hx] at c0 c1 c2
        have HX := Lib.hid hx; have HY := Lib.hid hy; have HT := Lib.hid hT; have H1 := Lib.hid h1; have H2 := Lib.hid h2; have HIX := Lib.hid hix; have HM0 := Lib.hid hM0; have HE0 := Lib.hid hE0; have HB0 := Lib.hid hB0; have HLM := Lib.hid hlm
        clear hn0 hp0 hT1 hT2 hT h1 h2 hx hy hix hM0 hE0 hB0 hlm
        by_cases hbx : before y x
        · have hc : decide (cmpT y x < 0) = true := by simpa using (cmpT_neg y x).2 hbx
          have hc2 : decide (0 ≤ cmpT y x) = false := by have := (cmpT_neg y x).2 hbx; simp; omega
          have HBf := Lib.hid hbx; clear hbx
          go_wp2_with fail
          simp only [EQ.out]
          refine wp_region_ordG [(0, 1), (1, 1), (2, 1), (3, 1), (4, 1), (5, 1), (6, 2), (7, 1), (8, 1), (9, 1), (10, 2), (11, 0), (12, 1), (13, 1)] [11] (none) (by kernel_rfl) (by kernel_rfl) ?_
          (repeat ((first | with_reducible refine wpOrdG_soft (fun K hK => ?_) | with_reducible refine wpOrdG_pre (fun K hK => ?_)); simp only [List.getElem?_toArray, List.getElem?_cons_zero, List.getElem?_cons_succ]; first | (go_simp; refine hK _ ?_) | (simp only [undef]; go_simp; refine hK _ ?_); clear hK K))
          (with_reducible refine wpOrdG_hard ?_; simp only [List.getElem?_toArray, List.getElem?_cons_zero, List.getElem?_cons_succ])
          go_wp2_with fail
          refine (compareTones_any y x _).mono ?_
          rintro e w1 ⟨rfl, hb1⟩
          go_wp2_with fail
          refine ⟨grown_of_below hb1, ?_⟩
          (repeat ((first | with_reducible refine wpOrdG_soft (fun K hK => ?_) | with_reducible refine wpOrdG_pre (fun K hK => ?_)); simp only [List.getElem?_toArray, List.getElem?_cons_zero, List.getElem?_cons_succ]; first | (go_simp; refine hK _ ?_) | (simp only [undef]; go_simp; refine hK _ ?_); clear hK K))
          (with_reducible refine wpOrdG_nil ?_); refine NoPanic.normal ?_
          have hb2 := undrew hb1
          clear w1'
          go_wp2
          go_roundw
          case rel =>
            have hm0 := HM0.out; have he0 := HE0.out
            refine ⟨lo, q, rfl, rfl, hq1, hal, by omega, by omega, HLM.out, H1.out, Or.inr (Or.inr ⟨hql, hqr, by omega, ?_⟩), HT.out.mono hb2, grown_trans hg (grown_row' hb2)⟩
            have h5 := HBf.out; rw [HX.out, HY.out] at h5; exact h5
          case measure => simp [intOf] <;> omega
        · have hc : decide (cmpT y x < 0) = false := by have : ¬ cmpT y x < 0 := fun h => hbx ((cmpT_neg y x).1 h); simp; omega
          have hc2 : decide (0 ≤ cmpT y x) = true := by have : ¬ cmpT y x < 0 := fun h => hbx ((cmpT_neg y x).1 h); simp; omega
          have HBf := Lib.hid hbx; clear hbx
          go_wp2_with fail
          simp only [EQ.out]
          refine wp_region_ordG [(0, 1), (1, 1), (2, 1), (3, 1), (4, 1), (5, 1), (6, 2), (7, 1), (8, 1), (9, 1), (10, 2), (11, 0), (12, 1), (13, 1)] [11] (none) (by kernel_rfl) (by kernel_rfl) ?_
          (repeat ((first | with_reducible refine wpOrdG_soft (fun K hK => ?_) | with_reducible refine wpOrdG_pre (fun K hK => ?_)); simp only [List.getElem?_toArray, List.getElem?_cons_zero, List.getElem?_cons_succ]; first | (go_simp; refine hK _ ?_) | (simp only [undef]; go_simp; refine hK _ ?_); clear hK K))
          (with_reducible refine wpOrdG_hard ?_; simp only [List.getElem?_toArray, List.getElem?_cons_zero, List.getElem?_cons_succ])
          go_wp2_with fail
          refine (compareTones_any y x _).mono ?_
          rintro e w1 ⟨rfl, hb1⟩
          go_wp2_with fail
          refine ⟨grown_of_below hb1, ?_⟩
          (repeat ((first | with_reducible refine wpOrdG_soft (fun K hK => ?_) | with_reducible refine wpOrdG_pre (fun K hK => ?_)); simp only [List.getElem?_toArray, List.getElem?_cons_zero, List.getElem?_cons_succ]; first | (go_simp; refine hK _ ?_) | (simp only [undef]; go_simp; refine hK _ ?_); clear hK K))
          (with_reducible refine wpOrdG_nil ?_); refine NoPanic.normal ?_
          have hb2 := undrew hb1
          clear w1'
          go_wp2
          go_roundw
          case rel =>
            have hm0 := HM0.out; have he0 := HE0.out
            refine ⟨q + 1, hi, by go_num, rfl, hq2, by omega, hhm, hhm2, by have := HLM.out; omega, Or.inr ?_, H2.out, HT.out.mono hb2, grown_trans hg (grown_row' hb2)⟩
            have e1 : q + 1 - a - 1 = q - a := by omega
            have e2 : M - (q + 1 - a) = M - 1 - (q - a) := by omega
            simp only [e1, e2]
            refine ⟨hql, hqr, by omega, ?_⟩
            have h5 := HBf.out; rw [HX.out, HY.out] at h5; exact h5
          case measure => simp [intOf] <;> omega
      · obtain rfl : lo = hi := by omega
        obtain ⟨L1, L2, R1, R2, l1, l2, l3, l4, s1, s2, s3, s4, he, hfin⟩ := sym_parts (A := A) (C := C) HL.out HR.out h1 h2 (by omega) (by omega) (by omega)
        rw [he] at hT
        obtain ⟨en, hen⟩ : ∃ en : Nat, en = mid + m - lo := ⟨_, rfl⟩
        have EE := Lib.hid (show (n0 : Int) - (lo : Int) = (en : Int) by omega)
        have hsum : L1.length + R1.length < L.length + R.length ∧ L2.length + R2.length < L.length + R.length := by omega
        have z1 : A.length + L1.length = lo := by rw [HA.out]; omega
        have z2 : lo + L2.length = m := by omega
        have z3 : m + R1.length = en := by omega
        have z4 : en + R2.length = b := by omega
        have z5 : lo + R1.length = mid := by omega
        have z6 : mid + L2.length = en := by omega
        have i1 : mid ≤ en := by omega
        have i2 : lo ≤ m := by omega
        have i3 : m ≤ en := by omega
        have i4 : lo ≤ mid := by omega
        have i5 : en ≤ b := by omega
        have i6 : lo ≤ n0 := by omega
        have i7 : n0 ≤ 3000000 := by omega
        have S1 := Lib.hid s1; have S2 := Lib.hid s2; have S3 := Lib.hid s3; have S4 := Lib.hid s4; have FN := Lib.hid hfin; have HS := Lib.hid hsum
        have Z1 := Lib.hid z1; have Z2 := Lib.hid z2; have Z3 := Lib.hid z3; have Z4 := Lib.hid z4; have Z5 := Lib.hid z5; have Z6 := Lib.hid z6
        have hT0 := Lib.hid hT
        clear l1 l2 l3 l4 s1 s2 s3 s4 he hfin hsum z1 z2 z3 z4 z5 z6 hT h1 h2 hE0 hB0 hM0 hen hn0 hp0
        have d9 : decide ((lo : Int) < (lo : Int)) = false := by simp
        by_cases r1 : lo < m
        · have f1 : decide ((lo : Int) < (m : Int)) = true := by simp; omega
          by_cases r2 : m < en
          · have f2 : decide ((m : Int) < (n0 : Int) - (lo : Int)) = true := by rw [EE.out]; simp; omega
            go_wp2_with fail
            simp only [EE.out]
            refine (rotate_any base g n cap lo m en (.func (.func 18) #[] #[]) (A ++ L1) L2 R1 (R2 ++ C) _ hT0.out hn (by rw [List.length_append]; exact Z1.out) (by rw [List.length_append, Z1.out]; exact Z2.out) (by rw [List.length_append, Z1.out]; have := Z2.out; have := Z3.out; omega) (by have := Z2.out; omega) (by have := Z3.out; omega)).mono ?_
            rintro e w1 ⟨rfl, hT1, hg1⟩
            have HT1 := Lib.hid hT1
            have hg := grown_trans hg hg1
            clear hT1 hg1
            by_cases r3 : a < lo
            · have f3 : decide ((a : Int) < (lo : Int)) = true := by simp; omega
              by_cases r4 : lo < mid
              · have f4 : decide ((lo : Int) < (mid : Int)) = true := by simp; omega
                go_wp2_with fail
                have cl := IH.out a lo mid A L1 R1 (L2 ++ (R2 ++ C)) _ (by have := HT1.out; rw [List.append_assoc] at this; exact this) HA.out (by have := Z1.out; rw [HA.out] at this; exact this) Z5.out (by have := Z1.out; have := HA.out; omega) (by have := Z5.out; omega) HS.out.1 S1.out S3.out
                unfold SymTo at cl
                refine cl.mono ?_
                rintro e w2 ⟨rfl, ⟨X1, p1, o1, hT2⟩, hg2⟩
                have HT2 := Lib.hid hT2; have P1 := Lib.hid p1; have O1 := Lib.hid o1
                have hg := grown_trans hg hg2
                clear hT2 hg2 p1 o1 cl
                by_cases r5 : mid < en
                · have f5 : decide ((mid : Int) < (en : Int)) = true := by simp; omega
                  have f5' : decide ((mid : Int) < (n0 : Int) - (lo : Int)) = true := by rw [EE.out]; simp; omega
                  by_cases r6 : en < b
                  · have f6 : decide ((en : Int) < (b : Int)) = true := by simp; omega
                    have f6' : decide ((n0 : Int) - (lo : Int) < (b : Int)) = true := by rw [EE.out]; simp; omega
                    go_wp2_with fail
                    try simp only [EE.out]
                    have cl := IH.out mid en b (A ++ X1) L2 R2 C _ (by have := HT2.out; rw [← List.append_assoc] at this; exact this) (by rw [List.length_append, P1.out.length_eq, List.length_append]; have := Z1.out; have := Z5.out; omega) Z6.out Z4.out (by have := Z6.out; omega) (by have := Z4.out; omega) HS.out.2 S2.out S4.out
                    unfold SymTo at cl
                    refine cl.mono ?_
                    rintro e w3 ⟨rfl, ⟨X2, p2, o2, hT3⟩, hg3⟩
                    have HT3 := Lib.hid hT3; have P2 := Lib.hid p2; have O2 := Lib.hid o2
                    have hg := grown_trans hg hg3
                    clear hT3 hg3 p2 o2 cl
                    go_wp2
                    go_end0
                    exact ⟨rfl, ⟨X1 ++ X2, (FN.out X1 X2 P1.out P2.out O1.out O2.out).1, (FN.out X1 X2 P1.out P2.out O1.out O2.out).2, by have := HT3.out; simp only [List.append_assoc] at this ⊢; exact this⟩, hg⟩
                  · have f6 : decide ((en : Int) < (b : Int)) = false := by simp; omega
                    have f6' : decide ((n0 : Int) - (lo : Int) < (b : Int)) = false := by rw [EE.out]; simp; omega
                    go_wp2
                    go_end0
                    have O2 : Srt (L2 ++ R2) := srt_two S2.out S4.out (Or.inr (by have := Z4.out; omega))
                    exact ⟨rfl, ⟨X1 ++ (L2 ++ R2), (FN.out X1 _ P1.out (List.Perm.refl _) O1.out O2).1, (FN.out X1 _ P1.out (List.Perm.refl _) O1.out O2).2, by have := HT2.out; simp only [List.append_assoc] at this ⊢; exact this⟩, hg⟩
                · have f5 : decide ((mid : Int) < (en : Int)) = false := by simp; omega
                  have f5' : decide ((mid : Int) < (n0 : Int) - (lo : Int)) = false := by rw [EE.out]; simp; omega
                  go_wp2
                  go_end0
                  have O2 : Srt (L2 ++ R2) := srt_two S2.out S4.out (Or.inl (by have := Z6.out; omega))
                  exact ⟨rfl, ⟨X1 ++ (L2 ++ R2), (FN.out X1 _ P1.out (List.Perm.refl _) O1.out O2).1, (FN.out X1 _ P1.out (List.Perm.refl _) O1.out O2).2, by have := HT2.out; simp only [List.append_assoc] at this ⊢; exact this⟩, hg⟩
              · have f4 : decide ((lo : Int) < (mid : Int)) = false := by simp; omega
                have HT2 := Lib.hid (show TR w1 base g n cap (A ++ ((L1 ++ R1) ++ (L2 ++ (R2 ++ C)))) by have := HT1.out; simp only [List.append_assoc] at this ⊢; exact this)
                obtain ⟨X1, hX1⟩ : ∃ X1, X1 = L1 ++ R1 := ⟨_, rfl⟩
                rw [← hX1] at HT2
                have P1 := Lib.hid (show X1.Perm (L1 ++ R1) by rw [hX1])
                have O1 := Lib.hid (show Srt X1 by rw [hX1]; exact srt_two S1.out S3.out (Or.inr (by have := Z5.out; omega)))
                clear hX1
                by_cases r5 : mid < en
                · have f5 : decide ((mid : Int) < (en : Int)) = true := by simp; omega
                  have f5' : decide ((mid : Int) < (n0 : Int) - (lo : Int)) = true := by rw [EE.out]; simp; omega
                  by_cases r6 : en < b
                  · have f6 : decide ((en : Int) < (b : Int)) = true := by simp; omega
                    have f6' : decide ((n0 : Int) - (lo : Int) < (b : Int)) = true := by rw [EE.out]; simp; omega
                    go_wp2_with fail
                    try simp only [EE.out]
                    have cl := IH.out mid en b (A ++ X1) L2 R2 C _ (by have := HT2.out; rw [← List.append_assoc] at this; exact this) (by rw [List.length_append, P1.out.length_eq, List.length_append]; have := Z1.out; have := Z5.out; omega) Z6.out Z4.out (by have := Z6.out; omega) (by have := Z4.out; omega) HS.out.2 S2.out S4.out
                    unfold SymTo at cl
                    refine cl.mono ?_
                    rintro e w3 ⟨rfl, ⟨X2, p2, o2, hT3⟩, hg3⟩
                    have HT3 := Lib.hid hT3; have P2 := Lib.hid p2; have O2 := Lib.hid o2
                    have hg := grown_trans hg hg3
                    clear hT3 hg3 p2 o2 cl
                    go_wp2
                    go_end0
                    exact ⟨rfl, ⟨X1 ++ X2, (FN.out X1 X2 P1.out P2.out O1.out O2.out).1, (FN.out X1 X2 P1.out P2.out O1.out O2.out).2, by have := HT3.out; simp only [List.append_assoc] at this ⊢; exact this⟩, hg⟩
                  · have f6 : decide ((en : Int) < (b : Int)) = false := by simp; omega
                    have f6' : decide ((n0 : Int) - (lo : Int) < (b : Int)) = false := by rw [EE.out]; simp; omega
                    go_wp2
                    go_end0
                    have O2 : Srt (L2 ++ R2) := srt_two S2.out S4.out (Or.inr (by have := Z4.out; omega))
                    exact ⟨rfl, ⟨X1 ++ (L2 ++ R2), (FN.out X1 _ P1.out (List.Perm.refl _) O1.out O2).1, (FN.out X1 _ P1.out (List.Perm.refl _) O1.out O2).2, by have := HT2.out; simp only [List.append_assoc] at this ⊢; exact this⟩, hg⟩
                · have f5 : decide ((mid : Int) < (en : Int)) = false := by simp; omega
                  have f5' : decide ((mid : Int) < (n0 : Int) - (lo : Int)) = false := by rw [EE.out]; simp; omega
                  go_wp2
                  go_end0
                  have O2 : Srt (L2 ++ R2) := srt_two S2.out S4.out (Or.inl (by have := Z6.out; omega))
                  exact ⟨rfl, ⟨X1 ++ (L2 ++ R2), (FN.out X1 _ P1.out (List.Perm.refl _) O1.out O2).1, (FN.out X1 _ P1.out (List.Perm.refl _) O1.out O2).2, by have := HT2.out; simp only [List.append_assoc] at this ⊢; exact this⟩, hg⟩
            · have f3 : decide ((a : Int) < (lo : Int)) = false := by simp; omega
              have HT2 := Lib.hid (show TR w1 base g n cap (A ++ ((L1 ++ R1) ++ (L2 ++ (R2 ++ C)))) by have := HT1.out; simp only [List.append_assoc] at this ⊢; exact this)
              obtain ⟨X1, hX1⟩ : ∃ X1, X1 = L1 ++ R1 := ⟨_, rfl⟩
              rw [← hX1] at HT2
              have P1 := Lib.hid (show X1.Perm (L1 ++ R1) by rw [hX1])
              have O1 := Lib.hid (show Srt X1 by rw [hX1]; exact srt_two S1.out S3.out (Or.inl (by have := Z1.out; have := HA.out; omega)))
              clear hX1
              by_cases r5 : mid < en
              · have f5 : decide ((mid : Int) < (en : Int)) = true := by simp; omega
                have f5' : decide ((mid : Int) < (n0 : Int) - (lo : Int)) = true := by rw [EE.out]; simp; omega
                by_cases r6 : en < b
                · have f6 : decide ((en : Int) < (b : Int)) = true := by simp; omega
                  have f6' : decide ((n0 : Int) - (lo : Int) < (b : Int)) = true := by rw [EE.out]; simp; omega
                  go_wp2_with fail
                  try simp only [EE.out]
                  have cl := IH.out mid en b (A ++ X1) L2 R2 C _ (by have := HT2.out; rw [← List.append_assoc] at this; exact this) (by rw [List.length_append, P1.out.length_eq, List.length_append]; have := Z1.out; have := Z5.out; omega) Z6.out Z4.out (by have := Z6.out; omega) (by have := Z4.out; omega) HS.out.2 S2.out S4.out
                  unfold SymTo at cl
                  refine cl.mono ?_
                  rintro e w3 ⟨rfl, ⟨X2, p2, o2, hT3⟩, hg3⟩
                  have HT3 := Lib.hid hT3; have P2 := Lib.hid p2; have O2 := Lib.hid o2
                  have hg := grown_trans hg hg3
                  clear hT3 hg3 p2 o2 cl
                  go_wp2
                  go_end0
                  exact ⟨rfl, ⟨X1 ++ X2, (FN.out X1 X2 P1.out P2.out O1.out O2.out).1, (FN.out X1 X2 P1.out P2.out O1.out O2.out).2, by have := HT3.out; simp only [List.append_assoc] at this ⊢; exact this⟩, hg⟩
                · have f6 : decide ((en : Int) < (b : Int)) = false := by simp; omega
                  have f6' : decide ((n0 : Int) - (lo : Int) < (b : Int)) = false := by rw [EE.out]; simp; omega
                  go_wp2
                  go_end0
                  have O2 : Srt (L2 ++ R2) := srt_two S2.out S4.out (Or.inr (by have := Z4.out; omega))
                  exact ⟨rfl, ⟨X1 ++ (L2 ++ R2), (FN.out X1 _ P1.out (List.Perm.refl _) O1.out O2).1, (FN.out X1 _ P1.out (List.Perm.refl _) O1.out O2).2, by have := HT2.out; simp only [List.append_assoc] at this ⊢; exact this⟩, hg⟩
              · have f5 : decide ((mid : Int) < (en : Int)) = false := by simp; omega
                have f5' : decide ((mid : Int) < (n0 : Int) - (lo : Int)) = false := by rw [EE.out]; simp; omega
                go_wp2
                go_end0
                have O2 : Srt (L2 ++ R2) := srt_two S2.out S4.out (Or.inl (by have := Z6.out; omega))
                exact ⟨rfl, ⟨X1 ++ (L2 ++ R2), (FN.out X1 _ P1.out (List.Perm.refl _) O1.out O2).1, (FN.out X1 _ P1.out (List.Perm.refl _) O1.out O2).2, by have := HT2.out; simp only [List.append_assoc] at this ⊢; exact this⟩, hg⟩
          · have f2 : decide ((m : Int) < (n0 : Int) - (lo : Int)) = false := by rw [EE.out]; simp; omega
            have HT1 := Lib.hid (show TR wr base g n cap ((A ++ L1) ++ (R1 ++ (L2 ++ (R2 ++ C)))) by rw [← sym_swap0 A L2 R1 L1 (R2 ++ C) (Or.inr (by have := Z3.out; omega))]; exact hT0.out)
            by_cases r3 : a < lo
            · have f3 : decide ((a : Int) < (lo : Int)) = true := by simp; omega
              by_cases r4 : lo < mid
              · have f4 : decide ((lo : Int) < (mid : Int)) = true := by simp; omega
                go_wp2_with fail
                have cl := IH.out a lo mid A L1 R1 (L2 ++ (R2 ++ C)) _ (by have := HT1.out; rw [List.append_assoc] at this; exact this) HA.out (by have := Z1.out; rw [HA.out] at this; exact this) Z5.out (by have := Z1.out; have := HA.out; omega) (by have := Z5.out; omega) HS.out.1 S1.out S3.out
                unfold SymTo at cl
                refine cl.mono ?_
                rintro e w2 ⟨rfl, ⟨X1, p1, o1, hT2⟩, hg2⟩
                have HT2 := Lib.hid hT2; have P1 := Lib.hid p1; have O1 := Lib.hid o1
                have hg := grown_trans hg hg2
                clear hT2 hg2 p1 o1 cl
                by_cases r5 : mid < en
                · have f5 : decide ((mid : Int) < (en : Int)) = true := by simp; omega
                  have f5' : decide ((mid : Int) < (n0 : Int) - (lo : Int)) = true := by rw [EE.out]; simp; omega
                  by_cases r6 : en < b
                  · have f6 : decide ((en : Int) < (b : Int)) = true := by simp; omega
                    have f6' : decide ((n0 : Int) - (lo : Int) < (b : Int)) = true := by rw [EE.out]; simp; omega
                    go_wp2_with fail
                    try simp only [EE.out]
                    have cl := IH.out mid en b (A ++ X1) L2 R2 C _ (by have := HT2.out; rw [← List.append_assoc] at this; exact this) (by rw [List.length_append, P1.out.length_eq, List.length_append]; have := Z1.out; have := Z5.out; omega) Z6.out Z4.out (by have := Z6.out; omega) (by have := Z4.out; omega) HS.out.2 S2.out S4.out
                    unfold SymTo at cl
                    refine cl.mono ?_
                    rintro e w3 ⟨rfl, ⟨X2, p2, o2, hT3⟩, hg3⟩
                    have HT3 := Lib.hid hT3; have P2 := Lib.hid p2; have O2 := Lib.hid o2
                    have hg := grown_trans hg hg3
                    clear hT3 hg3 p2 o2 cl
                    go_wp2
                    go_end0
                    exact ⟨rfl, ⟨X1 ++ X2, (FN.out X1 X2 P1.out P2.out O1.out O2.out).1, (FN.out X1 X2 P1.out P2.out O1.out O2.out).2, by have := HT3.out; simp only [List.append_assoc] at this ⊢; exact this⟩, hg⟩
                  · have f6 : decide ((en : Int) < (b : Int)) = false := by simp; omega
                    have f6' : decide ((n0 : Int) - (lo : Int) < (b : Int)) = false := by rw [EE.out]; simp; omega
                    go_wp2
                    go_end0
                    have O2 : Srt (L2 ++ R2) := srt_two S2.out S4.out (Or.inr (by have := Z4.out; omega))
                    exact ⟨rfl, ⟨X1 ++ (L2 ++ R2), (FN.out X1 _ P1.out (List.Perm.refl _) O1.out O2).1, (FN.out X1 _ P1.out (List.Perm.refl _) O1.out O2).2, by have := HT2.out; simp only [List.append_assoc] at this ⊢; exact this⟩, hg⟩
                · have f5 : decide ((mid : Int) < (en : Int)) = false := by simp; omega
                  have f5' : decide ((mid : Int) < (n0 : Int) - (lo : Int)) = false := by rw [EE.out]; simp; omega
                  go_wp2
                  go_end0
                  have O2 : Srt (L2 ++ R2) := srt_two S2.out S4.out (Or.inl (by have := Z6.out; omega))
                  exact ⟨rfl, ⟨X1 ++ (L2 ++ R2), (FN.out X1 _ P1.out (List.Perm.refl _) O1.out O2).1, (FN.out X1 _ P1.out (List.Perm.refl _) O1.out O2).2, by have := HT2.out; simp only [List.append_assoc] at this ⊢; exact this⟩, hg⟩
              · have f4 : decide ((lo : Int) < (mid : Int)) = false := by simp; omega
                have HT2 := Lib.hid (show TR wr base g n cap (A ++ ((L1 ++ R1) ++ (L2 ++ (R2 ++ C)))) by have := HT1.out; simp only [List.append_assoc] at this ⊢; exact this)
                obtain ⟨X1, hX1⟩ : ∃ X1, X1 = L1 ++ R1 := ⟨_, rfl⟩
                rw [← hX1] at HT2
                have P1 := Lib.hid (show X1.Perm (L1 ++ R1) by rw [hX1])
                have O1 := Lib.hid (show Srt X1 by rw [hX1]; exact srt_two S1.out S3.out (Or.inr (by have := Z5.out; omega)))
                clear hX1
                by_cases r5 : mid < en
                · have f5 : decide ((mid : Int) < (en : Int)) = true := by simp; omega
                  have f5' : decide ((mid : Int) < (n0 : Int) - (lo : Int)) = true := by rw [EE.out]; simp; omega
                  by_cases r6 : en < b
                  · have f6 : decide ((en : Int) < (b : Int)) = true := by simp; omega
                    have f6' : decide ((n0 : Int) - (lo : Int) < (b : Int)) = true := by rw [EE.out]; simp; omega
                    go_wp2_with fail
                    try simp only [EE.out]
                    have cl := IH.out mid en b (A ++ X1) L2 R2 C _ (by have := HT2.out; rw [← List.append_assoc] at this; exact this) (by rw [List.length_append, P1.out.length_eq, List.length_append]; have := Z1.out; have := Z5.out; omega) Z6.out Z4.out (by have := Z6.out; omega) (by have := Z4.out; omega) HS.out.2 S2.out S4.out
                    unfold SymTo at cl
                    refine cl.mono ?_
                    rintro e w3 ⟨rfl, ⟨X2, p2, o2, hT3⟩, hg3⟩
                    have HT3 := Lib.hid hT3; have P2 := Lib.hid p2; have O2 := Lib.hid o2
                    have hg := grown_trans hg hg3
                    clear hT3 hg3 p2 o2 cl
                    go_wp2
                    go_end0
                    exact ⟨rfl, ⟨X1 ++ X2, (FN.out X1 X2 P1.out P2.out O1.out O2.out).1, (FN.out X1 X2 P1.out P2.out O1.out O2.out).2, by have := HT3.out; simp only [List.append_assoc] at this ⊢; exact this⟩, hg⟩
                  · have f6 : decide ((en : Int) < (b : Int)) = false := by simp; omega
                    have f6' : decide ((n0 : Int) - (lo : Int) < (b : Int)) = false := by rw [EE.out]; simp; omega
                    go_wp2
                    go_end0
                    have O2 : Srt (L2 ++ R2) := srt_two S2.out S4.out (Or.inr (by have := Z4.out; omega))
                    exact ⟨rfl, ⟨X1 ++ (L2 ++ R2), (FN.out X1 _ P1.out (List.Perm.refl _) O1.out O2).1, (FN.out X1 _ P1.out (List.Perm.refl _) O1.out O2).2, by have := HT2.out; simp only [List.append_assoc] at this ⊢; exact this⟩, hg⟩
                · have f5 : decide ((mid : Int) < (en : Int)) = false := by simp; omega
                  have f5' : decide ((mid : Int) < (n0 : Int) - (lo : Int)) = false := by rw [EE.out]; simp; omega
                  go_wp2
                  go_end0
                  have O2 : Srt (L2 ++ R2) := srt_two S2.out S4.out (Or.inl (by have := Z6.out; omega))
                  exact ⟨rfl, ⟨X1 ++ (L2 ++ R2), (FN.out X1 _ P1.out (List.Perm.refl _) O1.out O2).1, (FN.out X1 _ P1.out (List.Perm.refl _) O1.out O2).2, by have := HT2.out; simp only [List.append_assoc] at this ⊢; exact this⟩, hg⟩
            · have f3 : decide ((a : Int) < (lo : Int)) = false := by simp; omega
              have HT2 := Lib.hid (show TR wr base g n cap (A ++ ((L1 ++ R1) ++ (L2 ++ (R2 ++ C)))) by have := HT1.out; simp only [List.append_assoc] at this ⊢; exact this)
              obtain ⟨X1, hX1⟩ : ∃ X1, X1 = L1 ++ R1 := ⟨_, rfl⟩
              rw [← hX1] at HT2
              have P1 := Lib.hid (show X1.Perm (L1 ++ R1) by rw [hX1])
              have O1 := Lib.hid (show Srt X1 by rw [hX1]; exact srt_two S1.out S3.out (Or.inl (by have := Z1.out; have := HA.out; omega)))
              clear hX1
              by_cases r5 : mid < en
              · have f5 : decide ((mid : Int) < (en : Int)) = true := by simp; omega
                have f5' : decide ((mid : Int) < (n0 : Int) - (lo : Int)) = true := by rw [EE.out]; simp; omega
                by_cases r6 : en < b
                · have f6 : decide ((en : Int) < (b : Int)) = true := by simp; omega
                  have f6' : decide ((n0 : Int) - (lo : Int) < (b : Int)) = true := by rw [EE.out]; simp; omega
                  go_wp2_with fail
                  try simp only [EE.out]
                  have cl := IH.out mid en b (A ++ X1) L2 R2 C _ (by have := HT2.out; rw [← List.append_assoc] at this; exact this) (by rw [List.length_append, P1.out.length_eq, List.length_append]; have := Z1.out; have := Z5.out; omega) Z6.out Z4.out (by have := Z6.out; omega) (by have := Z4.out; omega) HS.out.2 S2.out S4.out
                  unfold SymTo at cl
                  refine cl.mono ?_
                  rintro e w3 ⟨rfl, ⟨X2, p2, o2, hT3⟩, hg3⟩
                  have HT3 := Lib.hid hT3; have P2 := Lib.hid p2; have O2 := Lib.hid o2
                  have hg := grown_trans hg hg3
                  clear hT3 hg3 p2 o2 cl
                  go_wp2
                  go_end0
                  exact ⟨rfl, ⟨X1 ++ X2, (FN.out X1 X2 P1.out P2.out O1.out O2.out).1, (FN.out X1 X2 P1.out P2.out O1.out O2.out).2, by have := HT3.out; simp only [List.append_assoc] at this ⊢; exact this⟩, hg⟩
                · have f6 : decide ((en : Int) < (b : Int)) = false := by simp; omega
                  have f6' : decide ((n0 : Int) - (lo : Int) < (b : Int)) = false := by rw [EE.out]; simp; omega
                  go_wp2
                  go_end0
                  have O2 : Srt (L2 ++ R2) := srt_two S2.out S4.out (Or.inr (by have := Z4.out; omega))
                  exact ⟨rfl, ⟨X1 ++ (L2 ++ R2), (FN.out X1 _ P1.out (List.Perm.refl _) O1.out O2).1, (FN.out X1 _ P1.out (List.Perm.refl _) O1.out O2).2, by have := HT2.out; simp only [List.append_assoc] at this ⊢; exact this⟩, hg⟩
              · have f5 : decide ((mid : Int) < (en : Int)) = false := by simp; omega
                have f5' : decide ((mid : Int) < (n0 : Int) - (lo : Int)) = false := by rw [EE.out]; simp; omega
                go_wp2
                go_end0
                have O2 : Srt (L2 ++ R2) := srt_two S2.out S4.out (Or.inl (by have := Z6.out; omega))
                exact ⟨rfl, ⟨X1 ++ (L2 ++ R2), (FN.out X1 _ P1.out (List.Perm.refl _) O1.out O2).1, (FN.out X1 _ P1.out (List.Perm.refl _) O1.out O2).2, by have := HT2.out; simp only [List.append_assoc] at this ⊢; exact this⟩, hg⟩
        · have f1 : decide ((lo : Int) < (m : Int)) = false := by simp; omega
          have HT1 := Lib.hid (show TR wr base g n cap ((A ++ L1) ++ (R1 ++ (L2 ++ (R2 ++ C)))) by rw [← sym_swap0 A L2 R1 L1 (R2 ++ C) (Or.inl (by have := Z2.out; omega))]; exact hT0.out)
          by_cases r3 : a < lo
          · have f3 : decide ((a : Int) < (lo : Int)) = true := by simp; omega
            by_cases r4 : lo < mid
            · have f4 : decide ((lo : Int) < (mid : Int)) = true := by simp; omega
              go_wp2_with fail
              have cl := IH.out a lo mid A L1 R1 (L2 ++ (R2 ++ C)) _ (by have := HT1.out; rw [List.append_assoc] at this; exact this) HA.out (by have := Z1.out; rw [HA.out] at this; exact this) Z5.out (by have := Z1.out; have := HA.out; omega) (by have := Z5.out; omega) HS.out.1 S1.out S3.out
              unfold SymTo at cl
              refine cl.mono ?_
              rintro e w2 ⟨rfl, ⟨X1, p1, o1, hT2⟩, hg2⟩
              have HT2 := Lib.hid hT2; have P1 := Lib.hid p1; have O1 := Lib.hid o1
              have hg := grown_trans hg hg2
              clear hT2 hg2 p1 o1 cl
              by_cases r5 : mid < en
              · have f5 : decide ((mid : Int) < (en : Int)) = true := by simp; omega
                have f5' : decide ((mid : Int) < (n0 : Int) - (lo : Int)) = true := by rw [EE.out]; simp; omega
                by_cases r6 : en < b
                · have f6 : decide ((en : Int) < (b : Int)) = true := by simp; omega
                  have f6' : decide ((n0 : Int) - (lo : Int) < (b : Int)) = true := by rw [EE.out]; simp; omega
                  go_wp2_with fail
                  try simp only [EE.out]
                  have cl := IH.out mid en b (A ++ X1) L2 R2 C _ (by have := HT2.out; rw [← List.append_assoc] at this; exact this) (by rw [List.length_append, P1.out.length_eq, List.length_append]; have := Z1.out; have := Z5.out; omega) Z6.out Z4.out (by have := Z6.out; omega) (by have := Z4.out; omega) HS.out.2 S2.out S4.out
                  unfold SymTo at cl
                  refine cl.mono ?_
                  rintro e w3 ⟨rfl, ⟨X2, p2, o2, hT3⟩, hg3⟩
                  have HT3 := Lib.hid hT3; have P2 := Lib.hid p2; have O2 := Lib.hid o2
                  have hg := grown_trans hg hg3
                  clear hT3 hg3 p2 o2 cl
                  go_wp2
                  go_end0
                  exact ⟨rfl, ⟨X1 ++ X2, (FN.out X1 X2 P1.out P2.out O1.out O2.out).1, (FN.out X1 X2 P1.out P2.out O1.out O2.out).2, by have := HT3.out; simp only [List.append_assoc] at this ⊢; exact this⟩, hg⟩
                · have f6 : decide ((en : Int) < (b : Int)) = false := by simp; omega
                  have f6' : decide ((n0 : Int) - (lo : Int) < (b : Int)) = false := by rw [EE.out]; simp; omega
                  go_wp2
                  go_end0
                  have O2 : Srt (L2 ++ R2) := srt_two S2.out S4.out (Or.inr (by have := Z4.out; omega))
                  exact ⟨rfl, ⟨X1 ++ (L2 ++ R2), (FN.out X1 _ P1.out (List.Perm.refl _) O1.out O2).1, (FN.out X1 _ P1.out (List.Perm.refl _) O1.out O2).2, by have := HT2.out; simp only [List.append_assoc] at this ⊢; exact this⟩, hg⟩
              · have f5 : decide ((mid : Int) < (en : Int)) = false := by simp; omega
                have f5' : decide ((mid : Int) < (n0 : Int) - (lo : Int)) = false := by rw [EE.out]; simp; omega
                go_wp2
                go_end0
                have O2 : Srt (L2 ++ R2) := srt_two S2.out S4.out (Or.inl (by have := Z6.out; omega))
                exact ⟨rfl, ⟨X1 ++ (L2 ++ R2), (FN.out X1 _ P1.out (List.Perm.refl _) O1.out O2).1, (FN.out X1 _ P1.out (List.Perm.refl _) O1.out O2).2, by have := HT2.out; simp only [List.append_assoc] at this ⊢; exact this⟩, hg⟩
            · have f4 : decide ((lo : Int) < (mid : Int)) = false := by simp; omega
              have HT2 := Lib.hid (show TR wr base g n cap (A ++ ((L1 ++ R1) ++ (L2 ++ (R2 ++ C)))) by have := HT1.out; simp only [List.append_assoc] at this ⊢; exact this)
              obtain ⟨X1, hX1⟩ : ∃ X1, X1 = L1 ++ R1 := ⟨_, rfl⟩
              rw [← hX1] at HT2
              have P1 := Lib.hid (show X1.Perm (L1 ++ R1) by rw [hX1])
              have O1 := Lib.hid (show Srt X1 by rw [hX1]; exact srt_two S1.out S3.out (Or.inr (by have := Z5.out; omega)))
              clear hX1
              by_cases r5 : mid < en
              · have f5 : decide ((mid : Int) < (en : Int)) = true := by simp; omega
                have f5' : decide ((mid : Int) < (n0 : Int) - (lo : Int)) = true := by rw [EE.out]; simp; omega
                by_cases r6 : en < b
                · have f6 : decide ((en : Int) < (b : Int)) = true := by simp; omega
                  have f6' : decide ((n0 : Int) - (lo : Int) < (b : Int)) = true := by rw [EE.out]; simp; omega
                  go_wp2_with fail
                  try simp only [EE.out]
                  have cl := IH.out mid en b (A ++ X1) L2 R2 C _ (by have := HT2.out; rw [← List.append_assoc] at this; exact this) (by rw [List.length_append, P1.out.length_eq, List.length_append]; have := Z1.out; have := Z5.out; omega) Z6.out Z4.out (by have := Z6.out; omega) (by have := Z4.out; omega) HS.out.2 S2.out S4.out
                  unfold SymTo at cl
                  refine cl.mono ?_
                  rintro e w3 ⟨rfl, ⟨X2, p2, o2, hT3⟩, hg3⟩
                  have HT3 := Lib.hid hT3; have P2 := Lib.hid p2; have O2 := Lib.hid o2
                  have hg := grown_trans hg hg3
                  clear hT3 hg3 p2 o2 cl
                  go_wp2
                  go_end0
                  exact ⟨rfl, ⟨X1 ++ X2, (FN.out X1 X2 P1.out P2.out O1.out O2.out).1, (FN.out X1 X2 P1.out P2.out O1.out O2.out).2, by have := HT3.out; simp only [List.append_assoc] at this ⊢; exact this⟩, hg⟩
                · have f6 : decide ((en : Int) < (b : Int)) = false := by simp; omega
                  have f6' : decide ((n0 : Int) - (lo : Int) < (b : Int)) = false := by rw [EE.out]; simp; omega
                  go_wp2
                  go_end0
                  have O2 : Srt (L2 ++ R2) := srt_two S2.out S4.out (Or.inr (by have := Z4.out; omega))
                  exact ⟨rfl, ⟨X1 ++ (L2 ++ R2), (FN.out X1 _ P1.out (List.Perm.refl _) O1.out O2).1, (FN.out X1 _ P1.out (List.Perm.refl _) O1.out O2).2, by have := HT2.out; simp only [List.append_assoc] at this ⊢; exact this⟩, hg⟩
              · have f5 : decide ((mid : Int) < (en : Int)) = false := by simp; omega
                have f5' : decide ((mid : Int) < (n0 : Int) - (lo : Int)) = false := by rw [EE.out]; simp; omega
                go_wp2
                go_end0
                have O2 : Srt (L2 ++ R2) := srt_two S2.out S4.out (Or.inl (by have := Z6.out; omega))
                exact ⟨rfl, ⟨X1 ++ (L2 ++ R2), (FN.out X1 _ P1.out (List.Perm.refl _) O1.out O2).1, (FN.out X1 _ P1.out (List.Perm.refl _) O1.out O2).2, by have := HT2.out; simp only [List.append_assoc] at this ⊢; exact this⟩, hg⟩
          · have f3 : decide ((a : Int) < (lo : Int)) = false := by simp; omega
            have HT2 := Lib.hid (show TR wr base g n cap (A ++ ((L1 ++ R1) ++ (L2 ++ (R2 ++ C)))) by have := HT1.out; simp only [List.append_assoc] at this ⊢; exact this)
            obtain ⟨X1, hX1⟩ : ∃ X1, X1 = L1 ++ R1 := ⟨_, rfl⟩
            rw [← hX1] at HT2
            have P1 := Lib.hid (show X1.Perm (L1 ++ R1) by rw [hX1])
            have O1 := Lib.hid (show Srt X1 by rw [hX1]; exact srt_two S1.out S3.out (Or.inl (by have := Z1.out; have := HA.out; omega)))
            clear hX1
            by_cases r5 : mid < en
            · have f5 : decide ((mid : Int) < (en : Int)) = true := by simp; omega
              have f5' : decide ((mid : Int) < (n0 : Int) - (lo : Int)) = true := by rw [EE.out]; simp; omega
              by_cases r6 : en < b
              · have f6 : decide ((en : Int) < (b : Int)) = true := by simp; omega
                have f6' : decide ((n0 : Int) - (lo : Int) < (b : Int)) = true := by rw [EE.out]; simp; omega
                go_wp2_with fail
                try simp only [EE.out]
                have cl := IH.out mid en b (A ++ X1) L2 R2 C _ (by have := HT2.out; rw [← List.append_assoc] at this; exact this) (by rw [List.length_append, P1.out.length_eq, List.length_append]; have := Z1.out; have := Z5.out; omega) Z6.out Z4.out (by have := Z6.out; omega) (by have := Z4.out; omega) HS.out.2 S2.out S4.out
                unfold SymTo at cl
                refine cl.mono ?_
                rintro e w3 ⟨rfl, ⟨X2, p2, o2, hT3⟩, hg3⟩
                have HT3 := Lib.hid hT3; have P2 := Lib.hid p2; have O2 := Lib.hid o2
                have hg := grown_trans hg hg3
                clear hT3 hg3 p2 o2 cl
                go_wp2
                go_end0
                exact ⟨rfl, ⟨X1 ++ X2, (FN.out X1 X2 P1.out P2.out O1.out O2.out).1, (FN.out X1 X2 P1.out P2.out O1.out O2.out).2, by have := HT3.out; simp only [List.append_assoc] at this ⊢; exact this⟩, hg⟩
              · have f6 : decide ((en : Int) < (b : Int)) = false := by simp; omega
                have f6' : decide ((n0 : Int) - (lo : Int) < (b : Int)) = false := by rw [EE.out]; simp; omega
                go_wp2
                go_end0
                have O2 : Srt (L2 ++ R2) := srt_two S2.out S4.out (Or.inr (by have := Z4.out; omega))
                exact ⟨rfl, ⟨X1 ++ (L2 ++ R2), (FN.out X1 _ P1.out (List.Perm.refl _) O1.out O2).1, (FN.out X1 _ P1.out (List.Perm.refl _) O1.out O2).2, by have := HT2.out; simp only [List.append_assoc] at this ⊢; exact this⟩, hg⟩
            · have f5 : decide ((mid : Int) < (en : Int)) = false := by simp; omega
              have f5' : decide ((mid : Int) < (n0 : Int) - (lo : Int)) = false := by rw [EE.out]; simp; omega
              go_wp2
              go_end0
              have O2 : Srt (L2 ++ R2) := srt_two S2.out S4.out (Or.inl (by have := Z6.out; omega))
              exact ⟨rfl, ⟨X1 ++ (L2 ++ R2), (FN.out X1 _ P1.out (List.Perm.refl _) O1.out O2).1, (FN.out X1 _ P1.out (List.Perm.refl _) O1.out O2).2, by have := HT2.out; simp only [List.append_assoc] at this ⊢; exact this⟩, hg⟩

end Go.Proofs.Ythnnjjcopehccaa
