import Derived.Test.YtgdfecnpkjnhnaaGreatDoorFtZ6
import Derived.Test.YtgdfecnpkjnhnaaGreatDoorFtZ4
/- Contract of symMergeCmpFunc at tones. -/
set_option linter.unusedSimpArgs false
set_option linter.unnecessarySimpa false
set_option linter.unusedVariables false
set_option maxRecDepth 100000
namespace Go.Proofs.YtgdfecnpkjnhnaaGreatDoor
open Go.RowKit

def SymTo (base g n cap a m b : Nat) (A L R C : List Ton) (w : World) : Prop :=
  Calls Tryz.prog 107 #[.slice (some ⟨g, 0, none⟩) n cap, .int .i64 a, .int .i64 m, .int .i64 b, .func (.func 43) #[] #[]] w fun e w' => e = .returned (.tuple #[]) ∧ (∃ S', S'.Perm (L ++ R) ∧ Srt S' ∧ TR w' base g n cap (A ++ (S' ++ C))) ∧ w.grownBy w' (some g)

def SymIH (base g n cap N : Nat) : Prop := ∀ (a m b : Nat) (A L R C : List Ton) (w : World), TR w base g n cap (A ++ (L ++ (R ++ C))) → A.length = a → a + L.length = m → m + R.length = b → 0 < L.length → 0 < R.length → L.length + R.length < N → Srt L → Srt R → SymTo base g n cap a m b A L R C w

set_option maxHeartbeats 8000000 in
theorem symC_any (base g n cap a m b : Nat) (A L R C : List Ton) (w : World) (h : TR w base g n cap (A ++ (L ++ (R ++ C)))) (hn : n ≤ 1000000) (ha : A.length = a) (hm : a + L.length = m) (hb : m + R.length = b) (hL1 : 1 < L.length) (hR1 : 1 < R.length) (hL : Srt L) (hR : Srt R)
    (ih : SymIH base g n cap (L.length + R.length)) : SymTo base g n cap a m b A L R C w := by
  unfold SymTo
  have IH := Lib.hid ih; clear ih
  have hln := h.len
  simp only [List.length_append] at hln
  have hcn : n ≤ cap := by rcases h.2.2 with ⟨e, _⟩ | ⟨g', cap', cur, e, _, _, h1, _⟩ <;> cases e; exact h1
  have hgb := h.lt.1
  have q1 : b ≤ n := by omega
  have q2 : a < m := by omega
  have q3 : m < b := by omega
  obtain ⟨mid, hmid⟩ : ∃ mid : Nat, mid = (a + b) / 2 := ⟨_, rfl⟩
  have q4 : a < mid := by omega
  have q5 : mid < b := by omega
  obtain ⟨M, hM⟩ : ∃ M : Nat, M = mid - a := ⟨_, rfl⟩
  have EM := Lib.hid (show ((a : Int) + (b : Int)) / 2 = (mid : Int) by omega)
  have q6 : m ≤ mid → M ≤ R.length ∧ L.length ≤ M := by omega
  have q7 : ¬ m ≤ mid → R.length ≤ M ∧ M < L.length := by omega
  have q8 : m ≤ mid ∨ b ≤ mid + m := by omega
  have HA := Lib.hid ha; have HB := Lib.hid hb; have HL := Lib.hid hL; have HR := Lib.hid hR; have E0 := Lib.hid hm; have HM := Lib.hid hM; have Q6 := Lib.hid q6; have Q7 := Lib.hid q7
  have dm : decide ((m : Int) - (a : Int) = 1) = false := by simp; omega
  have dm2 : (((m : Int) - (a : Int)) == 1) = false := by simp; omega
  have db : decide ((b : Int) - (m : Int) = 1) = false := by simp; omega
  have db2 : (((b : Int) - (m : Int)) == 1) = false := by simp; omega
  obtain ⟨n0, hn0⟩ : ∃ n0 : Nat, n0 = mid + m := ⟨_, rfl⟩
  obtain ⟨p0, hp0⟩ : ∃ p0 : Nat, p0 + 1 = n0 := ⟨n0 - 1, by omega⟩
  have EN := Lib.hid (show (mid : Int) + (m : Int) = (n0 : Int) by omega)
  have EP := Lib.hid (show (n0 : Int) - 1 = (p0 : Int) by omega)
  have HN := Lib.hid hn0; have HP := Lib.hid hp0
  clear hln ha hb hL hR hm hM hmid hL1 hR1 q6 q7 hn0 hp0
  by_cases hmm : m ≤ mid
  · have dmm : decide (((a : Int) + (b : Int)) / 2 < (m : Int)) = false := by rw [EM.out]; simp; omega
    go_enter Tryz.func107, Tryz.ntmps107
    go_wp2_with fail
    simp only [EM.out, EN.out, EP.out]
    go_loopw [20, 21] (fun i j wr => ∃ (lo hi : Nat), i = .int .i64 (lo : Int) ∧ j = .int .i64 (hi : Int) ∧ lo ≤ hi ∧ a ≤ lo ∧ hi ≤ mid ∧ hi ≤ m ∧ M - R.length ≤ lo - a ∧ loOk L R M (lo - a) ∧ hiOk L R M (hi - a) ∧ TR wr base g n cap (A ++ (L ++ (R ++ C))) ∧ w.grownBy wr (some g)) (fun i j _ => (intOf j - intOf i).toNat)
    case atStart => exact ⟨a, m, rfl, rfl, by omega, Nat.le_refl _, hmm, Nat.le_refl _, by have := Q6.out hmm; omega, Or.inl (by have := Q6.out hmm; omega), Or.inr (Or.inl (by have := E0.out; omega)), h, World.grownBy.refl _ _⟩
    case round =>
      obtain ⟨lo, hi, rfl, rfl, hlh, hal, hhm, hhm2, hlm, h1, h2, hT, hg⟩ := hrel
      have hE0 := E0.out
      have hB0 := HB.out
      have hM0 := HM.out
      have hn0 := HN.out
      have hp0 := HP.out
      by_cases hlt : lo < hi
      · obtain ⟨q, hq⟩ : ∃ q : Nat, q = (lo + hi) / 2 := ⟨_, rfl⟩
        obtain ⟨hq1, hq2⟩ := mid_bd hlt
        rw [← hq] at hq1 hq2
        have EQ := Lib.hid (show ((lo : Int) + (hi : Int)) / 2 = (q : Int) by omega)
        clear hq
        have hql : q - a < L.length := by omega
        obtain ⟨ix, hix⟩ : ∃ ix : Nat, ix = p0 - q := ⟨_, rfl⟩
        have hqr : M - 1 - (q - a) < R.length := by omega
        have hT1 := hT
        rw [formL A L (R ++ C) (q - a) hql] at hT1
        obtain ⟨c0, c1, c2⟩ := hT1.atM (k := q) (by rw [List.length_append, List.length_take, HA.out]; omega)
        have hT2 := hT
        rw [← List.append_assoc, formL (A ++ L) R C (M - 1 - (q - a)) hqr] at hT2
        obtain ⟨d0, d1, d2⟩ := hT2.atM (k := ix) (by rw [List.length_append, List.length_append, List.length_take, HA.out]; omega)
        have hlt' := hT.lt.2
        have w1' : IntKind.i64.wrap ((p0 : Int) - (q : Int)) = (ix : Int) := (IntWalk.i64_in _ (by omega)).trans (by omega)
        have b2 : (ix : Int) < (n : Int) := by omega
        have b3 : (q : Int) < (n : Int) := by omega
        obtain ⟨y, hy⟩ : ∃ y, y = R[M - 1 - (q - a)] := ⟨_, rfl⟩
        obtain ⟨x, hx⟩ : ∃ x, x = L[q - a] := ⟨_, rfl⟩
        rw [← hy] at d0 d1 d2
        rw [← hx] at c0 c1 c2
        have HX := Lib.hid hx; have HY := Lib.hid hy; have HT := Lib.hid hT; have H1 := Lib.hid h1; have H2 := Lib.hid h2; have HIX := Lib.hid hix; have HM0 := Lib.hid hM0; have HE0 := Lib.hid hE0; have HB0 := Lib.hid hB0; have HLM := Lib.hid hlm
        clear hn0 hp0 hT1 hT2 hT h1 h2 hx hy hix hM0 hE0 hB0 hlm
        by_cases hbx : before y x
        · have hc : decide (cmpT y x < 0) = true := by simpa using (cmpT_neg y x).2 hbx
          have hc2 : decide (0 ≤ cmpT y x) = false := by have := (cmpT_neg y x).2 hbx; simp; omega
          have HBf := Lib.hid hbx; clear hbx
          go_wp2_with fail
          simp only [EQ.out]
          refine wp_region_ordG [(0, 1), (1, 1), (2, 1), (3, 1), (4, 1), (5, 1), (6, 2), (7, 1), (8, 1), (9, 1), (10, 2), (11, 0), (12, 1), (13, 1)] [11] (none) (by kernel_rfl) (by kernel_rfl) ?_
          (repeat ((first | with_reducible refine wpOrdG_soft (fun K hK => ?_) | with_reducible refine wpOrdG_pre (fun K hK => ?_)); simp only [List.getElem?_toArray, List.getElem?_cons_zero, List.getElem?_cons_succ]; first | (go_simp; refine hK _ ?_) | (simp only [undef]; go_simp; refine hK _ ?_); clear hK K))
          (with_reducible refine wpOrdG_hard ?_; simp only [List.getElem?_toArray, List.getElem?_cons_zero, List.getElem?_cons_succ])
          go_wp2_with fail
          refine (compareTones_any y x _).mono ?_
          rintro e w1 ⟨rfl, hb1⟩
          go_wp2_with fail
          refine ⟨grown_of_below hb1, ?_⟩
          (repeat ((first | with_reducible refine wpOrdG_soft (fun K hK => ?_) | with_reducible refine wpOrdG_pre (fun K hK => ?_)); simp only [List.getElem?_toArray, List.getElem?_cons_zero, List.getElem?_cons_succ]; first | (go_simp; refine hK _ ?_) | (simp only [undef]; go_simp; refine hK _ ?_); clear hK K))
          (with_reducible refine wpOrdG_nil ?_); refine NoPanic.normal ?_
          have hb2 := undrew hb1
          clear w1'
          go_wp2
          go_roundw
          case rel =>
            have hm0 := HM0.out; have he0 := HE0.out
            refine ⟨lo, q, rfl, rfl, hq1, hal, by omega, by omega, HLM.out, H1.out, Or.inr (Or.inr ⟨hql, hqr, by omega, ?_⟩), HT.out.mono hb2, grown_trans hg (grown_row' hb2)⟩
            have h5 := HBf.out; rw [HX.out, HY.out] at h5; exact h5
          case measure => simp [intOf] <;> omega
        · have hc : decide (cmpT y x < 0) = false := by have : ¬ cmpT y x < 0 := fun h => hbx ((cmpT_neg y x).1 h); simp; omega
          have hc2 : decide (0 ≤ cmpT y x) = true := by have : ¬ cmpT y x < 0 := fun h => hbx ((cmpT_neg y x).1 h); simp; omega
          have HBf := Lib.hid hbx; clear hbx
          go_wp2_with fail
          simp only [EQ.out]
          refine wp_region_ordG [(0, 1), (1, 1), (2, 1), (3, 1), (4, 1), (5, 1), (6, 2), (7, 1), (8, 1), (9, 1), (10, 2), (11, 0), (12, 1), (13, 1)] [11] (none) (by kernel_rfl) (by kernel_rfl) ?_
          (repeat ((first | with_reducible refine wpOrdG_soft (fun K hK => ?_) | with_reducible refine wpOrdG_pre (fun K hK => ?_)); simp only [List.getElem?_toArray, List.getElem?_cons_zero, List.getElem?_cons_succ]; first | (go_simp; refine hK _ ?_) | (simp only [undef]; go_simp; refine hK _ ?_); clear hK K))
          (with_reducible refine wpOrdG_hard ?_; simp only [List.getElem?_toArray, List.getElem?_cons_zero, List.getElem?_cons_succ])
          go_wp2_with fail
          refine (compareTones_any y x _).mono ?_
          rintro e w1 ⟨rfl, hb1⟩
          go_wp2_with fail
          refine ⟨grown_of_below hb1, ?_⟩
          (repeat ((first | with_reducible refine wpOrdG_soft (fun K hK => ?_) | with_reducible refine wpOrdG_pre (fun K hK => ?_)); simp only [List.getElem?_toArray, List.getElem?_cons_zero, List.getElem?_cons_succ]; first | (go_simp; refine hK _ ?_) | (simp only [undef]; go_simp; refine hK _ ?_); clear hK K))
          (with_reducible refine wpOrdG_nil ?_); refine NoPanic.normal ?_
          have hb2 := undrew hb1
          clear w1'
          go_wp2
          go_roundw
          case rel =>
            have hm0 := HM0.out; have he0 := HE0.out
            refine ⟨q + 1, hi, by go_num, rfl, hq2, by omega, hhm, hhm2, by have := HLM.out; omega, Or.inr ?_, H2.out, HT.out.mono hb2, grown_trans hg (grown_row' hb2)⟩
            have e1 : q + 1 - a - 1 = q - a := by omega
            have e2 : M - (q + 1 - a) = M - 1 - (q - a) := by omega
            simp only [e1, e2]
            refine ⟨hql, hqr, by omega, ?_⟩
            have h5 := HBf.out; rw [HX.out, HY.out] at h5; exact h5
          case measure => simp [intOf] <;> omega
      · obtain rfl : lo = hi := by omega
        obtain ⟨L1, L2, R1, R2, l1, l2, l3, l4, s1, s2, s3, s4, he, hfin⟩ := sym_parts (A := A) (C := C) HL.out HR.out h1 h2 (by omega) (by omega) (by omega)
        rw [he] at hT
        obtain ⟨en, hen⟩ : ∃ en : Nat, en = mid + m - lo := ⟨_, rfl⟩
        have EE := Lib.hid (show (n0 : Int) - (lo : Int) = (en : Int) by omega)
        have hsum : L1.length + R1.length < L.length + R.length ∧ L2.length + R2.length < L.length + R.length := by omega
        have z1 : A.length + L1.length = lo := by rw [HA.out]; omega
        have z2 : lo + L2.length = m := by omega
        have z3 : m + R1.length = en := by omega
        have z4 : en + R2.length = b := by omega
        have z5 : lo + R1.length = mid := by omega
        have z6 : mid + L2.length = en := by omega
        have i1 : mid ≤ en := by omega
        have i2 : lo ≤ m := by omega
        have i3 : m ≤ en := by omega
        have i4 : lo ≤ mid := by omega
        have i5 : en ≤ b := by omega
        have i6 : lo ≤ n0 := by omega
        have i7 : n0 ≤ 3000000 := by omega
        have S1 := Lib.hid s1; have S2 := Lib.hid s2; have S3 := Lib.hid s3; have S4 := Lib.hid s4; have FN := Lib.hid hfin; have HS := Lib.hid hsum
        have Z1 := Lib.hid z1; have Z2 := Lib.hid z2; have Z3 := Lib.hid z3; have Z4 := Lib.hid z4; have Z5 := Lib.hid z5; have Z6 := Lib.hid z6
        have hT0 := Lib.hid hT
        clear l1 l2 l3 l4 s1 s2 s3 s4 he hfin hsum z1 z2 z3 z4 z5 z6 hT h1 h2 hE0 hB0 hM0 hen hn0 hp0
        have d9 : decide ((lo : Int) < (lo : Int)) = false := by simp
        by_cases r1 : lo < m
        · have f1 : decide ((lo : Int) < (m : Int)) = true := by simp; omega
          by_cases r2 : m < en
          · have f2 : decide ((m : Int) < (n0 : Int) - (lo : Int)) = true := by rw [EE.out]; simp; omega
            go_wp2_with fail
            simp only [EE.out]
            refine (rotate_any base g n cap lo m en (.func (.func 43) #[] #[]) (A ++ L1) L2 R1 (R2 ++ C) _ hT0.out hn (by rw [List.length_append]; exact Z1.out) (by rw [List.length_append, Z1.out]; exact Z2.out) (by rw [List.length_append, Z1.out]; have := Z2.out; have := Z3.out; omega) (by have := Z2.out; omega) (by have := Z3.out; omega)).mono ?_
            rintro e w1 ⟨rfl, hT1, hg1⟩
            have HT1 := Lib.hid hT1
            have hg := grown_trans hg hg1
            clear hT1 hg1
            by_cases r3 : a < lo
            · have f3 : decide ((a : Int) < (lo : Int)) = true := by simp; omega
              by_cases r4 : lo < mid
              · have f4 : decide ((lo : Int) < (mid : Int)) = true := by simp; omega
                go_wp2_with fail
                have cl := IH.out a lo mid A L1 R1 (L2 ++ (R2 ++ C)) _ (by have := HT1.out; rw [List.append_assoc] at this; exact this) HA.out (by have := Z1.out; rw [HA.out] at this; exact this) Z5.out (by have := Z1.out; have := HA.out; omega) (by have := Z5.out; omega) HS.out.1 S1.out S3.out
                unfold SymTo at cl
                refine cl.mono ?_
                rintro e w2 ⟨rfl, ⟨X1, p1, o1, hT2⟩, hg2⟩
                have HT2 := Lib.hid hT2; have P1 := Lib.hid p1; have O1 := Lib.hid o1
                have hg := grown_trans hg hg2
                clear hT2 hg2 p1 o1 cl
                by_cases r5 : mid < en
                · have f5 : decide ((mid : Int) < (en : Int)) = true := by simp; omega
                  have f5' : decide ((mid : Int) < (n0 : Int) - (lo : Int)) = true := by rw [EE.out]; simp; omega
                  by_cases r6 : en < b
                  · have f6 : decide ((en : Int) < (b : Int)) = true := by simp; omega
                    have f6' : decide ((n0 : Int) - (lo : Int) < (b : Int)) = true := by rw [EE.out]; simp; omega
                    go_wp2_with fail
                    try simp only [EE.out]
                    have cl := IH.out mid en b (A ++ X1) L2 R2 C _ (by have := HT2.out; rw [← List.append_assoc] at this; exact this) (by rw [List.length_append, P1.out.length_eq, List.length_append]; have := Z1.out; have := Z5.out; omega) Z6.out Z4.out (by have := Z6.out; omega) (by have := Z4.out; omega) HS.out.2 S2.out S4.out
                    unfold SymTo at cl
                    refine cl.mono ?_
                    rintro e w3 ⟨rfl, ⟨X2, p2, o2, hT3⟩, hg3⟩
                    have HT3 := Lib.hid hT3; have P2 := Lib.hid p2; have O2 := Lib.hid o2
                    have hg := grown_trans hg hg3
                    clear hT3 hg3 p2 o2 cl
                    go_wp2
                    go_end0
                    exact ⟨rfl, ⟨X1 ++ X2, (FN.out X1 X2 P1.out P2.out O1.out O2.out).1, (FN.out X1 X2 P1.out P2.out O1.out O2.out).2, by have := HT3.out; simp only [List.append_assoc] at this ⊢; exact this⟩, hg⟩
                  · have f6 : decide ((en : Int) < (b : Int)) = false := by simp; omega
                    have f6' : decide ((n0 : Int) - (lo : Int) < (b : Int)) = false := by rw [EE.out]; simp; omega
                    go_wp2
                    go_end0
                    have O2 : Srt (L2 ++ R2) := srt_two S2.out S4.out (Or.inr (by have := Z4.out; omega))
                    exact ⟨rfl, ⟨X1 ++ (L2 ++ R2), (FN.out X1 _ P1.out (List.Perm.refl _) O1.out O2).1, (FN.out X1 _ P1.out (List.Perm.refl _) O1.out O2).2, by have := HT2.out; simp only [List.append_assoc] at this ⊢; exact this⟩, hg⟩
                · have f5 : decide ((mid : Int) < (en : Int)) = false := by simp; omega
                  have f5' : decide ((mid : Int) < (n0 : Int) - (lo : Int)) = false := by rw [EE.out]; simp; omega
                  go_wp2
                  go_end0
                  have O2 : Srt (L2 ++ R2) := srt_two S2.out S4.out (Or.inl (by have := Z6.out; omega))
                  exact ⟨rfl, ⟨X1 ++ (L2 ++ R2), (FN.out X1 _ P1.out (List.Perm.refl _) O1.out O2).1, (FN.out X1 _ P1.out (List.Perm.refl _) O1.out O2).2, by have := HT2.out; simp only [List.append_assoc] at this ⊢; exact this⟩, hg⟩
              · have f4 : decide ((lo : Int) < (mid : Int)) = false := by simp; omega
                have HT2 := Lib.hid (show TR w1 base g n cap (A ++ ((L1 ++ R1) ++ (L2 ++ (R2 ++ C)))) by have := HT1.out; simp only [List.append_assoc] at this ⊢; exact this)
                obtain ⟨X1, hX1⟩ : ∃ X1, X1 = L1 ++ R1 := ⟨_, rfl⟩
                rw [← hX1] at HT2
                have P1 := Lib.hid (show X1.Perm (L1 ++ R1) by rw [hX1])
                have O1 := Lib.hid (show Srt X1 by rw [hX1]; exact srt_two S1.out S3.out (Or.inr (by have := Z5.out; omega)))
                clear hX1
                by_cases r5 : mid < en
                · have f5 : decide ((mid : Int) < (en : Int)) = true := by simp; omega
                  have f5' : decide ((mid : Int) < (n0 : Int) - (lo : Int)) = true := by rw [EE.out]; simp; omega
                  by_cases r6 : en < b
                  · have f6 : decide ((en : Int) < (b : Int)) = true := by simp; omega
                    have f6' : decide ((n0 : Int) - (lo : Int) < (b : Int)) = true := by rw [EE.out]; simp; omega
                    go_wp2_with fail
                    try simp only [EE.out]
                    have cl := IH.out mid en b (A ++ X1) L2 R2 C _ (by have := HT2.out; rw [← List.append_assoc] at this; exact this) (by rw [List.length_append, P1.out.length_eq, List.length_append]; have := Z1.out; have := Z5.out; omega) Z6.out Z4.out (by have := Z6.out; omega) (by have := Z4.out; omega) HS.out.2 S2.out S4.out
                    unfold SymTo at cl
                    refine cl.mono ?_
                    rintro e w3 ⟨rfl, ⟨X2, p2, o2, hT3⟩, hg3⟩
                    have HT3 := Lib.hid hT3; have P2 := Lib.hid p2; have O2 := Lib.hid o2
                    have hg := grown_trans hg hg3
                    clear hT3 hg3 p2 o2 cl
                    go_wp2
                    go_end0
                    exact ⟨rfl, ⟨X1 ++ X2, (FN.out X1 X2 P1.out P2.out O1.out O2.out).1, (FN.out X1 X2 P1.out P2.out O1.out O2.out).2, by have := HT3.out; simp only [List.append_assoc] at this ⊢; exact this⟩, hg⟩
                  · have f6 : decide ((en : Int) < (b : Int)) = false := by simp; omega
                    have f6' : decide ((n0 : Int) - (lo : Int) < (b : Int)) = false := by rw [EE.out]; simp; omega
                    go_wp2
                    go_end0
                    have O2 : Srt (L2 ++ R2) := srt_two S2.out S4.out (Or.inr (by have := Z4.out; omega))
                    exact ⟨rfl, ⟨X1 ++ (L2 ++ R2), (FN.out X1 _ P1.out (List.Perm.refl _) O1.out O2).1, (FN.out X1 _ P1.out (List.Perm.refl _) O1.out O2).2, by have := HT2.out; simp only [List.append_assoc] at this ⊢; exact this⟩, hg⟩
                · have f5 : decide ((mid : Int) < (en : Int)) = false := by simp; omega
                  have f5' : decide ((mid : Int) < (n0 : Int) - (lo : Int)) = false := by rw [EE.out]; simp; omega
                  go_wp2
                  go_end0
                  have O2 : Srt (L2 ++ R2) := srt_two S2.out S4.out (Or.inl (by have := Z6.out; omega))
                  exact ⟨rfl, ⟨X1 ++ (L2 ++ R2), (FN.out X1 _ P1.out (List.Perm.refl _) O1.out O2).1, (FN.out X1 _ P1.out (List.Perm.refl _) O1.out O2).2, by have := HT2.out; simp only [List.append_assoc] at this ⊢; exact this⟩, hg⟩
            · have f3 : decide ((a : Int) < (lo : Int)) = false := by simp; omega
              have HT2 := Lib.hid (show TR w1 base g n cap (A ++ ((L1 ++ R1) ++ (L2 ++ (R2 ++ C)))) by have := HT1.out; simp only [List.append_assoc] at this ⊢; exact this)
              obtain ⟨X1, hX1⟩ : ∃ X1, X1 = L1 ++ R1 := ⟨_, rfl⟩
              rw [← hX1] at HT2
              have P1 := Lib.hid (show X1.Perm (L1 ++ R1) by rw [hX1])
              have O1 := Lib.hid (show Srt X1 by rw [hX1]; exact srt_two S1.out S3.out (Or.inl (by have := Z1.out; have := HA.out; omega)))
              clear hX1
              by_cases r5 : mid < en
              · have f5 : decide ((mid : Int) < (en : Int)) = true := by simp; omega
                have f5' : decide ((mid : Int) < (n0 : Int) - (lo : Int)) = true := by rw [EE.out]; simp; omega
                by_cases r6 : en < b
                · have f6 : decide ((en : Int) < (b : Int)) = true := by simp; omega
                  have f6' : decide ((n0 : Int) - (lo : Int) < (b : Int)) = true := by rw [EE.out]; simp; omega
                  go_wp2_with fail
                  try simp only [EE.out]
                  have cl := IH.out mid en b (A ++ X1) L2 R2 C _ (by have := HT2.out; rw [← List.append_assoc] at this; exact this) (by rw [List.length_append, P1.out.length_eq, List.length_append]; have := Z1.out; have := Z5.out; omega) Z6.out Z4.out (by have := Z6.out; omega) (by have := Z4.out; omega) HS.out.2 S2.out S4.out
                  unfold SymTo at cl
                  refine cl.mono ?_
                  rintro e w3 ⟨rfl, ⟨X2, p2, o2, hT3⟩, hg3⟩
                  have HT3 := Lib.hid hT3; have P2 := Lib.hid p2; have O2 := Lib.hid o2
                  have hg := grown_trans hg hg3
                  clear hT3 hg3 p2 o2 cl
                  go_wp2
                  go_end0
                  exact ⟨rfl, ⟨X1 ++ X2, (FN.out X1 X2 P1.out P2.out O1.out O2.out).1, (FN.out X1 X2 P1.out P2.out O1.out O2.out).2, by have := HT3.out; simp only [List.append_assoc] at this ⊢; exact this⟩, hg⟩
                · have f6 : decide ((en : Int) < (b : Int)) = false := by simp; omega
                  have f6' : decide ((n0 : Int) - (lo : Int) < (b : Int)) = false := by rw [EE.out]; simp; omega
                  go_wp2
                  go_end0
                  have O2 : Srt (L2 ++ R2) := srt_two S2.out S4.out (Or.inr (by have := Z4.out; omega))
                  exact ⟨rfl, ⟨X1 ++ (L2 ++ R2), (FN.out X1 _ P1.out (List.Perm.refl _) O1.out O2).1, (FN.out X1 _ P1.out (List.Perm.refl _) O1.out O2).2, by have := HT2.out; simp only [List.append_assoc] at this ⊢; exact this⟩, hg⟩
              · have f5 : decide ((mid : Int) < (en : Int)) = false := by simp; omega
                have f5' : decide ((mid : Int) < (n0 : Int) - (lo : Int)) = false := by rw [EE.out]; simp; omega
                go_wp2
                go_end0
                have O2 : Srt (L2 ++ R2) := srt_two S2.out S4.out (Or.inl (by have := Z6.out; omega))
                exact ⟨rfl, ⟨X1 ++ (L2 ++ R2), (FN.out X1 _ P1.out (List.Perm.refl _) O1.out O2).1, (FN.out X1 _ P1.out (List.Perm.refl _) O1.out O2).2, by have := HT2.out; simp only [List.append_assoc] at this ⊢; exact this⟩, hg⟩
          · have f2 : decide ((m : Int) < (n0 : Int) - (lo : Int)) = false := by rw [EE.out]; simp; omega
            have HT1 := Lib.hid (show TR wr base g n cap ((A ++ L1) ++ (R1 ++ (L2 ++ (R2 ++ C)))) by rw [← sym_swap0 A L2 R1 L1 (R2 ++ C) (Or.inr (by have := Z3.out; omega))]; exact hT0.out)
            by_cases r3 : a < lo
            · have f3 : decide ((a : Int) < (lo : Int)) = true := by simp; omega
              by_cases r4 : lo < mid
              · have f4 : decide ((lo : Int) < (mid : Int)) = true := by simp; omega
                go_wp2_with fail
                have cl := IH.out a lo mid A L1 R1 (L2 ++ (R2 ++ C)) _ (by have := HT1.out; rw [List.append_assoc] at this; exact this) HA.out (by have := Z1.out; rw [HA.out] at this; exact this) Z5.out (by have := Z1.out; have := HA.out; omega) (by have := Z5.out; omega) HS.out.1 S1.out S3.out
                unfold SymTo at cl
                refine cl.mono ?_
                rintro e w2 ⟨rfl, ⟨X1, p1, o1, hT2⟩, hg2⟩
                have HT2 := Lib.hid hT2; have P1 := Lib.hid p1; have O1 := Lib.hid o1
                have hg := grown_trans hg hg2
                clear hT2 hg2 p1 o1 cl
                by_cases r5 : mid < en
                · have f5 : decide ((mid : Int) < (en : Int)) = true := by simp; omega
                  have f5' : decide ((mid : Int) < (n0 : Int) - (lo : Int)) = true := by rw [EE.out]; simp; omega
                  by_cases r6 : en < b
                  · have f6 : decide ((en : Int) < (b : Int)) = true := by simp; omega
                    have f6' : decide ((n0 : Int) - (lo : Int) < (b : Int)) = true := by rw [EE.out]; simp; omega
                    go_wp2_with fail
                    try simp only [EE.out]
                    have cl := IH.out mid en b (A ++ X1) L2 R2 C _ (by have := HT2.out; rw [← List.append_assoc] at this; exact this) (by rw [List.length_append, P1.out.length_eq, List.length_append]; have := Z1.out; have := Z5.out; omega) Z6.out Z4.out (by have := Z6.out; omega) (by have := Z4.out; omega) HS.out.2 S2.out S4.out
                    unfold SymTo at cl
                    refine cl.mono ?_
                    rintro e w3 ⟨rfl, ⟨X2, p2, o2, hT3⟩, hg3⟩
                    have HT3 := Lib.hid hT3; have P2 := Lib.hid p2; have O2 := Lib.hid o2
                    have hg := grown_trans hg hg3
                    clear hT3 hg3 p2 o2 cl
                    go_wp2
                    go_end0
                    exact ⟨rfl, ⟨X1 ++ X2, (FN.out X1 X2 P1.out P2.out O1.out O2.out).1, (FN.out X1 X2 P1.out P2.out O1.out O2.out).2, by have := HT3.out; simp only [List.append_assoc] at this ⊢; exact this⟩, hg⟩
                  · have f6 : decide ((en : Int) < (b : Int)) = false := by simp; omega
                    have f6' : decide ((n0 : Int) - (lo : Int) < (b : Int)) = false := by rw [EE.out]; simp; omega
                    go_wp2
                    go_end0
                    have O2 : Srt (L2 ++ R2) := srt_two S2.out S4.out (Or.inr (by have := Z4.out; omega))
                    exact ⟨rfl, ⟨X1 ++ (L2 ++ R2), (FN.out X1 _ P1.out (List.Perm.refl _) O1.out O2).1, (FN.out X1 _ P1.out (List.Perm.refl _) O1.out O2).2, by have := HT2.out; simp only [List.append_assoc] at this ⊢; exact this⟩, hg⟩
                · have f5 : decide ((mid : Int) < (en : Int)) = false := by simp; omega
                  have f5' : decide ((mid : Int) < (n0 : Int) - (lo : Int)) = false := by rw [EE.out]; simp; omega
                  go_wp2
                  go_end0
                  have O2 : Srt (L2 ++ R2) := srt_two S2.out S4.out (Or.inl (by have := Z6.out; omega))
                  exact ⟨rfl, ⟨X1 ++ (L2 ++ R2), (FN.out X1 _ P1.out (List.Perm.refl _) O1.out O2).1, (FN.out X1 _ P1.out (List.Perm.refl _) O1.out O2).2, by have := HT2.out; simp only [List.append_assoc] at this ⊢; exact this⟩, hg⟩
              · have f4 : decide ((lo : Int) < (mid : Int)) = false := by simp; omega
                have HT2 := Lib.hid (show TR wr base g n cap (A ++ ((L1 ++ R1) ++ (L2 ++ (R2 ++ C)))) by have := HT1.out; simp only [List.append_assoc] at this ⊢; exact this)
                obtain ⟨X1, hX1⟩ : ∃ X1, X1 = L1 ++ R1 := ⟨_, rfl⟩
                rw [← hX1] at HT2
                have P1 := Lib.hid (show X1.Perm (L1 ++ R1) by rw [hX1])
                have O1 := Lib.hid (show Srt X1 by rw [hX1]; exact srt_two S1.out S3.out (Or.inr (by have := Z5.out; omega)))
                clear hX1
                by_cases r5 : mid < en
                · have f5 : decide ((mid : Int) < (en : Int)) = true := by simp; omega
                  have f5' : decide ((mid : Int) < (n0 : Int) - (lo : Int)) = true := by rw [EE.out]; simp; omega
                  by_cases r6 : en < b
                  · have f6 : decide ((en : Int) < (b : Int)) = true := by simp; omega
                    have f6' : decide ((n0 : Int) - (lo : Int) < (b : Int)) = true := by rw [EE.out]; simp; omega
                    go_wp2_with fail
                    try simp only [EE.out]
                    have cl := IH.out mid en b (A ++ X1) L2 R2 C _ (by have := HT2.out; rw [← List.append_assoc] at this; exact this) (by rw [List.length_append, P1.out.length_eq, List.length_append]; have := Z1.out; have := Z5.out; omega) Z6.out Z4.out (by have := Z6.out; omega) (by have := Z4.out; omega) HS.out.2 S2.out S4.out
                    unfold SymTo at cl
                    refine cl.mono ?_
                    rintro e w3 ⟨rfl, ⟨X2, p2, o2, hT3⟩, hg3⟩
                    have HT3 := Lib.hid hT3; have P2 := Lib.hid p2; have O2 := Lib.hid o2
                    have hg := grown_trans hg hg3
                    clear hT3 hg3 p2 o2 cl
                    go_wp2
                    go_end0
                    exact ⟨rfl, ⟨X1 ++ X2, (FN.out X1 X2 P1.out P2.out O1.out O2.out).1, (FN.out X1 X2 P1.out P2.out O1.out O2.out).2, by have := HT3.out; simp only [List.append_assoc] at this ⊢; exact this⟩, hg⟩
                  · have f6 : decide ((en : Int) < (b : Int)) = false := by simp; omega
                    have f6' : decide ((n0 : Int) - (lo : Int) < (b : Int)) = false := by rw [EE.out]; simp; omega
                    go_wp2
                    go_end0
                    have O2 : Srt (L2 ++ R2) := srt_two S2.out S4.out (Or.inr (by have := Z4.out; omega))
                    exact ⟨rfl, ⟨X1 ++ (L2 ++ R2), (FN.out X1 _ P1.out (List.Perm.refl _) O1.out O2).1, (FN.out X1 _ P1.out (List.Perm.refl _) O1.out O2).2, by have := HT2.out; simp only [List.append_assoc] at this ⊢; exact this⟩, hg⟩
                · have f5 : decide ((mid : Int) < (en : Int)) = false := by simp; omega
                  have f5' : decide ((mid : Int) < (n0 : Int) - (lo : Int)) = false := by rw [EE.out]; simp; omega
                  go_wp2
                  go_end0
                  have O2 : Srt (L2 ++ R2) := srt_two S2.out S4.out (Or.inl (by have := Z6.out; omega))
                  exact ⟨rfl, ⟨X1 ++ (L2 ++ R2), (FN.out X1 _ P1.out (List.Perm.refl _) O1.out O2).1, (FN.out X1 _ P1.out (List.Perm.refl _) O1.out O2).2, by have := HT2.out; simp only [List.append_assoc] at this ⊢; exact this⟩, hg⟩
            · have f3 : decide ((a : Int) < (lo : Int)) = false := by simp; omega
              have HT2 := Lib.hid (show TR wr base g n cap (A ++ ((L1 ++ R1) ++ (L2 ++ (R2 ++ C)))) by have := HT1.out; simp only [List.append_assoc] at this ⊢; exact this)
              obtain ⟨X1, hX1⟩ : ∃ X1, X1 = L1 ++ R1 := ⟨_, rfl⟩
              rw [← hX1] at HT2
              have P1 := Lib.hid (show X1.Perm (L1 ++ R1) by rw [hX1])
              have O1 := Lib.hid (show Srt X1 by rw [hX1]; exact srt_two S1.out S3.out (Or.inl (by have := Z1.out; have := HA.out; omega)))
              clear hX1
              by_cases r5 : mid < en
              · have f5 : decide ((mid : Int) < (en : Int)) = true := by simp; omega
                have f5' : decide ((mid : Int) < (n0 : Int) - (lo : Int)) = true := by rw [EE.out]; simp; omega
                by_cases r6 : en < b
                · have f6 : decide ((en : Int) < (b : Int)) = true := by simp; omega
                  have f6' : decide ((n0 : Int) - (lo : Int) < (b : Int)) = true := by rw [EE.out]; simp; omega
                  go_wp2_with fail
                  try simp only [EE.out]
                  have cl := IH.out mid en b (A ++ X1) L2 R2 C _ (by have := HT2.out; rw [← List.append_assoc] at this; exact this) (by rw [List.length_append, P1.out.length_eq, List.length_append]; have := Z1.out; have := Z5.out; omega) Z6.out Z4.out (by have := Z6.out; omega) (by have := Z4.out; omega) HS.out.2 S2.out S4.out
                  unfold SymTo at cl
                  refine cl.mono ?_
                  rintro e w3 ⟨rfl, ⟨X2, p2, o2, hT3⟩, hg3⟩
                  have HT3 := Lib.hid hT3; have P2 := Lib.hid p2; have O2 := Lib.hid o2
                  have hg := grown_trans hg hg3
                  clear hT3 hg3 p2 o2 cl
                  go_wp2
                  go_end0
                  exact ⟨rfl, ⟨X1 ++ X2, (FN.out X1 X2 P1.out P2.out O1.out O2.out).1, (FN.out X1 X2 P1.out P2.out O1.out O2.out).2, by have := HT3.out; simp only [List.append_assoc] at this ⊢; exact this⟩, hg⟩
                · have f6 : decide ((en : Int) < (b : Int)) = false := by simp; omega
                  have f6' : decide ((n0 : Int) - (lo : Int) < (b : Int)) = false := by rw [EE.out]; simp; omega
                  go_wp2
                  go_end0
                  have O2 : Srt (L2 ++ R2) := srt_two S2.out S4.out (Or.inr (by have := Z4.out; omega))
                  exact ⟨rfl, ⟨X1 ++ (L2 ++ R2), (FN.out X1 _ P1.out (List.Perm.refl _) O1.out O2).1, (FN.out X1 _ P1.out (List.Perm.refl _) O1.out O2).2, by have := HT2.out; simp only [List.append_assoc] at this ⊢; exact this⟩, hg⟩
              · have f5 : decide ((mid : Int) < (en : Int)) = false := by simp; omega
                have f5' : decide ((mid : Int) < (n0 : Int) - (lo : Int)) = false := by rw [EE.out]; simp; omega
                go_wp2
                go_end0
                have O2 : Srt (L2 ++ R2) := srt_two S2.out S4.out (Or.inl (by have := Z6.out; omega))
                exact ⟨rfl, ⟨X1 ++ (L2 ++ R2), (FN.out X1 _ P1.out (List.Perm.refl _) O1.out O2).1, (FN.out X1 _ P1.out (List.Perm.refl _) O1.out O2).2, by have := HT2.out; simp only [List.append_assoc] at this ⊢; exact this⟩, hg⟩
        · have f1 : decide ((lo : Int) < (m : Int)) = false := by simp; omega
          have HT1 := Lib.hid (show TR wr base g n cap ((A ++ L1) ++ (R1 ++ (L2 ++ (R2 ++ C)))) by rw [← sym_swap0 A L2 R1 L1 (R2 ++ C) (Or.inl (by have := Z2.out; omega))]; exact hT0.out)
          by_cases r3 : a < lo
          · have f3 : decide ((a : Int) < (lo : Int)) = true := by simp; omega
            by_cases r4 : lo < mid
            · have f4 : decide ((lo : Int) < (mid : Int)) = true := by simp; omega
              go_wp2_with fail
              have cl := IH.out a lo mid A L1 R1 (L2 ++ (R2 ++ C)) _ (by have := HT1.out; rw [List.append_assoc] at this; exact this) HA.out (by have := Z1.out; rw [HA.out] at this; exact this) Z5.out (by have := Z1.out; have := HA.out; omega) (by have := Z5.out; omega) HS.out.1 S1.out S3.out
              unfold SymTo at cl
              refine cl.mono ?_
              rintro e w2 ⟨rfl, ⟨X1, p1, o1, hT2⟩, hg2⟩
              have HT2 := Lib.hid hT2; have P1 := Lib.hid p1; have O1 := Lib.hid o1
              have hg := grown_trans hg hg2
              clear hT2 hg2 p1 o1 cl
              by_cases r5 : mid < en
              · have f5 : decide ((mid : Int) < (en : Int)) = true := by simp; omega
                have f5' : decide ((mid : Int) < (n0 : Int) - (lo : Int)) = true := by rw [EE.out]; simp; omega
                by_cases r6 : en < b
                · have f6 : decide ((en : Int) < (b : Int)) = true := by simp; omega
                  have f6' : decide ((n0 : Int) - (lo : Int) < (b : Int)) = true := by rw [EE.out]; simp; omega
                  go_wp2_with fail
                  try simp only [EE.out]
                  have cl := IH.out mid en b (A ++ X1) L2 R2 C _ (by have := HT2.out; rw [← List.append_assoc] at this; exact this) (by rw [List.length_append, P1.out.length_eq, List.length_append]; have := Z1.out; have := Z5.out; omega) Z6.out Z4.out (by have := Z6.out; omega) (by have := Z4.out; omega) HS.out.2 S2.out S4.out
                  unfold SymTo at cl
                  refine cl.mono ?_
                  rintro e w3 ⟨rfl, ⟨X2, p2, o2, hT3⟩, hg3⟩
                  have HT3 := Lib.hid hT3; have P2 := Lib.hid p2; have O2 := Lib.hid o2
                  have hg := grown_trans hg hg3
                  clear hT3 hg3 p2 o2 cl
                  go_wp2
                  go_end0
                  exact ⟨rfl, ⟨X1 ++ X2, (FN.out X1 X2 P1.out P2.out O1.out O2.out).1, (FN.out X1 X2 P1.out P2.out O1.out O2.out).2, by have := HT3.out; simp only [List.append_assoc] at this ⊢; exact this⟩, hg⟩
                · have f6 : decide ((en : Int) < (b : Int)) = false := by simp; omega
                  have f6' : decide ((n0 : Int) - (lo : Int) < (b : Int)) = false := by rw [EE.out]; simp; omega
                  go_wp2
                  go_end0
                  have O2 : Srt (L2 ++ R2) := srt_two S2.out S4.out (Or.inr (by have := Z4.out; omega))
                  exact ⟨rfl, ⟨X1 ++ (L2 ++ R2), (FN.out X1 _ P1.out (List.Perm.refl _) O1.out O2).1, (FN.out X1 _ P1.out (List.Perm.refl _) O1.out O2).2, by have := HT2.out; simp only [List.append_assoc] at this ⊢; exact this⟩, hg⟩
              · have f5 : decide ((mid : Int) < (en : Int)) = false := by simp; omega
                have f5' : decide ((mid : Int) < (n0 : Int) - (lo : Int)) = false := by rw [EE.out]; simp; omega
                go_wp2
                go_end0
                have O2 : Srt (L2 ++ R2) := srt_two S2.out S4.out (Or.inl (by have := Z6.out; omega))
                exact ⟨rfl, ⟨X1 ++ (L2 ++ R2), (FN.out X1 _ P1.out (List.Perm.refl _) O1.out O2).1, (FN.out X1 _ P1.out (List.Perm.refl _) O1.out O2).2, by have := HT2.out; simp only [List.append_assoc] at this ⊢; exact this⟩, hg⟩
            · have f4 : decide ((lo : Int) < (mid : Int)) = false := by simp; omega
              have HT2 := Lib.hid (show TR wr base g n cap (A ++ ((L1 ++ R1) ++ (L2 ++ (R2 ++ C)))) by have := HT1.out; simp only [List.append_assoc] at this ⊢; exact this)
              obtain ⟨X1, hX1⟩ : ∃ X1, X1 = L1 ++ R1 := ⟨_, rfl⟩
              rw [← hX1] at HT2
              have P1 := Lib.hid (show X1.Perm (L1 ++ R1) by rw [hX1])
              have O1 := Lib.hid (show Srt X1 by rw [hX1]; exact srt_two S1.out S3.out (Or.inr (by have := Z5.out; omega)))
              clear hX1
              by_cases r5 : mid < en
              · have f5 : decide ((mid : Int) < (en : Int)) = true := by simp; omega
                have f5' : decide ((mid : Int) < (n0 : Int) - (lo : Int)) = true := by rw [EE.out]; simp; omega
                by_cases r6 : en < b
                · have f6 : decide ((en : Int) < (b : Int)) = true := by simp; omega
                  have f6' : decide ((n0 : Int) - (lo : Int) < (b : Int)) = true := by rw [EE.out]; simp; omega
                  go_wp2_with fail
                  try simp only [EE.out]
                  have cl := IH.out mid en b (A ++ X1) L2 R2 C _ (by have := HT2.out; rw [← List.append_assoc] at this; exact this) (by rw [List.length_append, P1.out.length_eq, List.length_append]; have := Z1.out; have := Z5.out; omega) Z6.out Z4.out (by have := Z6.out; omega) (by have := Z4.out; omega) HS.out.2 S2.out S4.out
                  unfold SymTo at cl
                  refine cl.mono ?_
                  rintro e w3 ⟨rfl, ⟨X2, p2, o2, hT3⟩, hg3⟩
                  have HT3 := Lib.hid hT3; have P2 := Lib.hid p2; have O2 := Lib.hid o2
                  have hg := grown_trans hg hg3
                  clear hT3 hg3 p2 o2 cl
                  go_wp2
                  go_end0
                  exact ⟨rfl, ⟨X1 ++ X2, (FN.out X1 X2 P1.out P2.out O1.out O2.out).1, (FN.out X1 X2 P1.out P2.out O1.out O2.out).2, by have := HT3.out; simp only [List.append_assoc] at this ⊢; exact this⟩, hg⟩
                · have f6 : decide ((en : Int) < (b : Int)) = false := by simp; omega
                  have f6' : decide ((n0 : Int) - (lo : Int) < (b : Int)) = false := by rw [EE.out]; simp; omega
                  go_wp2
                  go_end0
                  have O2 : Srt (L2 ++ R2) := srt_two S2.out S4.out (Or.inr (by have := Z4.out; omega))
                  exact ⟨rfl, ⟨X1 ++ (L2 ++ R2), (FN.out X1 _ P1.out (List.Perm.refl _) O1.out O2).1, (FN.out X1 _ P1.out (List.Perm.refl _) O1.out O2).2, by have := HT2.out; simp only [List.append_assoc] at this ⊢; exact this⟩, hg⟩
              · have f5 : decide ((mid : Int) < (en : Int)) = false := by simp; omega
                have f5' : decide ((mid : Int) < (n0 : Int) - (lo : Int)) = false := by rw [EE.out]; simp; omega
                go_wp2
                go_end0
                have O2 : Srt (L2 ++ R2) := srt_two S2.out S4.out (Or.inl (by have := Z6.out; omega))
                exact ⟨rfl, ⟨X1 ++ (L2 ++ R2), (FN.out X1 _ P1.out (List.Perm.refl _) O1.out O2).1, (FN.out X1 _ P1.out (List.Perm.refl _) O1.out O2).2, by have := HT2.out; simp only [List.append_assoc] at this ⊢; exact this⟩, hg⟩
          · have f3 : decide ((a : Int) < (lo : Int)) = false := by simp; omega
            have HT2 := Lib.hid (show TR wr base g n cap (A ++ ((L1 ++ R1) ++ (L2 ++ (R2 ++ C)))) by have := HT1.out; simp only [List.append_assoc] at this ⊢; exact this)
            obtain ⟨X1, hX1⟩ : ∃ X1, X1 = L1 ++ R1 := ⟨_, rfl⟩
            rw [← hX1] at HT2
            have P1 := Lib.hid (show X1.Perm (L1 ++ R1) by rw [hX1])
            have O1 := Lib.hid (show Srt X1 by rw [hX1]; exact srt_two S1.out S3.out (Or.inl (by have := Z1.out; have := HA.out; omega)))
            clear hX1
            by_cases r5 : mid < en
            · have f5 : decide ((mid : Int) < (en : Int)) = true := by simp; omega
              have f5' : decide ((mid : Int) < (n0 : Int) - (lo : Int)) = true := by rw [EE.out]; simp; omega
              by_cases r6 : en < b
              · have f6 : decide ((en : Int) < (b : Int)) = true := by simp; omega
                have f6' : decide ((n0 : Int) - (lo : Int) < (b : Int)) = true := by rw [EE.out]; simp; omega
                go_wp2_with fail
                try simp only [EE.out]
                have cl := IH.out mid en b (A ++ X1) L2 R2 C _ (by have := HT2.out; rw [← List.append_assoc] at this; exact this) (by rw [List.length_append, P1.out.length_eq, List.length_append]; have := Z1.out; have := Z5.out; omega) Z6.out Z4.out (by have := Z6.out; omega) (by have := Z4.out; omega) HS.out.2 S2.out S4.out
                unfold SymTo at cl
                refine cl.mono ?_
                rintro e w3 ⟨rfl, ⟨X2, p2, o2, hT3⟩, hg3⟩
                have HT3 := Lib.hid hT3; have P2 := Lib.hid p2; have O2 := Lib.hid o2
                have hg := grown_trans hg hg3
                clear hT3 hg3 p2 o2 cl
                go_wp2
                go_end0
                exact ⟨rfl, ⟨X1 ++ X2, (FN.out X1 X2 P1.out P2.out O1.out O2.out).1, (FN.out X1 X2 P1.out P2.out O1.out O2.out).2, by have := HT3.out; simp only [List.append_assoc] at this ⊢; exact this⟩, hg⟩
              · have f6 : decide ((en : Int) < (b : Int)) = false := by simp; omega
                have f6' : decide ((n0 : Int) - (lo : Int) < (b : Int)) = false := by rw [EE.out]; simp; omega
                go_wp2
                go_end0
                have O2 : Srt (L2 ++ R2) := srt_two S2.out S4.out (Or.inr (by have := Z4.out; omega))
                exact ⟨rfl, ⟨X1 ++ (L2 ++ R2), (FN.out X1 _ P1.out (List.Perm.refl _) O1.out O2).1, (FN.out X1 _ P1.out (List.Perm.refl _) O1.out O2).2, by have := HT2.out; simp only [List.append_assoc] at this ⊢; exact this⟩, hg⟩
            · have f5 : decide ((mid : Int) < (en : Int)) = false := by simp; omega
              have f5' : decide ((mid : Int) < (n0 : Int) - (lo : Int)) = false := by rw [EE.out]; simp; omega
              go_wp2
              go_end0
              have O2 : Srt (L2 ++ R2) := srt_two S2.out S4.out (Or.inl (by have := Z6.out; omega))
              exact ⟨rfl, ⟨X1 ++ (L2 ++ R2), (FN.out X1 _ P1.out (List.Perm.refl _) O1.out O2).1, (FN.out X1 _ P1.out (List.Perm.refl _) O1.out O2).2, by have := HT2.out; simp only [List.append_assoc] at this ⊢; exact this⟩, hg⟩
  · have dmm : decide (((a : Int) + (b : Int)) / 2 < (m : Int)) = true := by rw [EM.out]; simp; omega
    go_enter Tryz.func107, Tryz.ntmps107
    go_wp2_with fail
    simp only [EM.out, EN.out, EP.out]
    go_loopw [20, 21] (fun i j wr => ∃ (lo hi : Nat), i = .int .i64 (lo : Int) ∧ j = .int .i64 (hi : Int) ∧ lo ≤ hi ∧ a ≤ lo ∧ hi ≤ mid ∧ hi ≤ m ∧ M - R.length ≤ lo - a ∧ loOk L R M (lo - a) ∧ hiOk L R M (hi - a) ∧ TR wr base g n cap (A ++ (L ++ (R ++ C))) ∧ w.grownBy wr (some g)) (fun i j _ => (intOf j - intOf i).toNat)
    case atStart => exact ⟨mid + m - b, mid, by have := HN.out; congr 1; omega, rfl, by omega, by have := Q7.out hmm; have := HB.out; have := HM.out; have := E0.out; omega, Nat.le_refl _, by omega, by have := Q7.out hmm; have := HB.out; have := HM.out; have := E0.out; omega, Or.inl (by have := Q7.out hmm; have := HB.out; have := HM.out; have := E0.out; omega), Or.inl (by have := HM.out; omega), h, World.grownBy.refl _ _⟩
    case round =>
      obtain ⟨lo, hi, rfl, rfl, hlh, hal, hhm, hhm2, hlm, h1, h2, hT, hg⟩ := hrel
      have hE0 := E0.out
      have hB0 := HB.out
      have hM0 := HM.out
      have hn0 := HN.out
      have hp0 := HP.out
      by_cases hlt : lo < hi
      · obtain ⟨q, hq⟩ : ∃ q : Nat, q = (lo + hi) / 2 := ⟨_, rfl⟩
        obtain ⟨hq1, hq2⟩ := mid_bd hlt
        rw [← hq] at hq1 hq2
        have EQ := Lib.hid (show ((lo : Int) + (hi : Int)) / 2 = (q : Int) by omega)
        clear hq
        have hql : q - a < L.length := by omega
        obtain ⟨ix, hix⟩ : ∃ ix : Nat, ix = p0 - q := ⟨_, rfl⟩
        have hqr : M - 1 - (q - a) < R.length := by omega
        have hT1 := hT
        rw [formL A L (R ++ C) (q - a) hql] at hT1
        obtain ⟨c0, c1, c2⟩ := hT1.atM (k := q) (by rw [List.length_append, List.length_take, HA.out]; omega)
        have hT2 := hT
        rw [← List.append_assoc, formL (A ++ L) R C (M - 1 - (q - a)) hqr] at hT2
        obtain ⟨d0, d1, d2⟩ := hT2.atM (k := ix) (by rw [List.length_append, List.length_append, List.length_take, HA.out]; omega)
        have hlt' := hT.lt.2
        have w1' : IntKind.i64.wrap ((p0 : Int) - (q : Int)) = (ix : Int) := (IntWalk.i64_in _ (by omega)).trans (by omega)
        have b2 : (ix : Int) < (n : Int) := by omega
        have b3 : (q : Int) < (n : Int) := by omega
        obtain ⟨y, hy⟩ : ∃ y, y = R[M - 1 - (q - a)] := ⟨_, rfl⟩
        obtain ⟨x, hx⟩ : ∃ x, x = L[q - a] := ⟨_, rfl⟩
        rw [← hy] at d0 d1 d2
        rw [← hx] at c0 c1 c2
        have HX := Lib.hid hx; have HY := Lib.hid hy; have HT := Lib.hid hT; have H1 := Lib.hid h1; have H2 := Lib.hid h2; have HIX := Lib.hid hix; have HM0 := Lib.hid hM0; have HE0 := Lib.hid hE0; have HB0 := Lib.hid hB0; have HLM := Lib.hid hlm
        clear hn0 hp0 hT1 hT2 hT h1 h2 hx hy hix hM0 hE0 hB0 hlm
        by_cases hbx : before y x
        · have hc : decide (cmpT y x < 0) = true := by simpa using (cmpT_neg y x).2 hbx
          have hc2 : decide (0 ≤ cmpT y x) = false := by have := (cmpT_neg y x).2 hbx; simp; omega
          have HBf := Lib.hid hbx; clear hbx
          go_wp2_with fail
          simp only [EQ.out]
          refine wp_region_ordG [(0, 1), (1, 1), (2, 1), (3, 1), (4, 1), (5, 1), (6, 2), (7, 1), (8, 1), (9, 1), (10, 2), (11, 0), (12, 1), (13, 1)] [11] (none) (by kernel_rfl) (by kernel_rfl) ?_
          (repeat ((first | with_reducible refine wpOrdG_soft (fun K hK => ?_) | with_reducible refine wpOrdG_pre (fun K hK => ?_)); simp only [List.getElem?_toArray, List.getElem?_cons_zero, List.getElem?_cons_succ]; first | (go_simp; refine hK _ ?_) | (simp only [undef]; go_simp; refine hK _ ?_); clear hK K))
          (with_reducible refine wpOrdG_hard ?_; simp only [List.getElem?_toArray, List.getElem?_cons_zero, List.getElem?_cons_succ])
          go_wp2_with fail
          refine (compareTones_any y x _).mono ?_
          rintro e w1 ⟨rfl, hb1⟩
          go_wp2_with fail
          refine ⟨grown_of_below hb1, ?_⟩
          (repeat ((first | with_reducible refine wpOrdG_soft (fun K hK => ?_) | with_reducible refine wpOrdG_pre (fun K hK => ?_)); simp only [List.getElem?_toArray, List.getElem?_cons_zero, List.getElem?_cons_succ]; first | (go_simp; refine hK _ ?_) | (simp only [undef]; go_simp; refine hK _ ?_); clear hK K))
          (with_reducible refine wpOrdG_nil ?_); refine NoPanic.normal ?_
          have hb2 := undrew hb1
          clear w1'
          go_wp2
          go_roundw
          case rel =>
            have hm0 := HM0.out; have he0 := HE0.out
            refine ⟨lo, q, rfl, rfl, hq1, hal, by omega, by omega, HLM.out, H1.out, Or.inr (Or.inr ⟨hql, hqr, by omega, ?_⟩), HT.out.mono hb2, grown_trans hg (grown_row' hb2)⟩
            have h5 := HBf.out; rw [HX.out, HY.out] at h5; exact h5
          case measure => simp [intOf] <;> omega
        · have hc : decide (cmpT y x < 0) = false := by have : ¬ cmpT y x < 0 := fun h => hbx ((cmpT_neg y x).1 h); simp; omega
          have hc2 : decide (0 ≤ cmpT y x) = true := by have : ¬ cmpT y x < 0 := fun h => hbx ((cmpT_neg y x).1 h); simp; omega
          have HBf := Lib.hid hbx; clear hbx
          go_wp2_with fail
          simp only [EQ.out]
          refine wp_region_ordG [(0, 1), (1, 1), (2, 1), (3, 1), (4, 1), (5, 1), (6, 2), (7, 1), (8, 1), (9, 1), (10, 2), (11, 0), (12, 1), (13, 1)] [11] (none) (by kernel_rfl) (by kernel_rfl) ?_
          (repeat ((first | with_reducible refine wpOrdG_soft (fun K hK => ?_) | with_reducible refine wpOrdG_pre (fun K hK => ?_)); simp only [List.getElem?_toArray, List.getElem?_cons_zero, List.getElem?_cons_succ]; first | (go_simp; refine hK _ ?_) | (simp only [undef]; go_simp; refine hK _ ?_); clear hK K))
          (with_reducible refine wpOrdG_hard ?_; simp only [List.getElem?_toArray, List.getElem?_cons_zero, List.getElem?_cons_succ])
          go_wp2_with fail
          refine (compareTones_any y x _).mono ?_
          rintro e w1 ⟨rfl, hb1⟩
          go_wp2_with fail
          refine ⟨grown_of_below hb1, ?_⟩
          (repeat ((first | with_reducible refine wpOrdG_soft (fun K hK => ?_) | with_reducible refine wpOrdG_pre (fun K hK => ?_)); simp only [List.getElem?_toArray, List.getElem?_cons_zero, List.getElem?_cons_succ]; first | (go_simp; refine hK _ ?_) | (simp only [undef]; go_simp; refine hK _ ?_); clear hK K))
          (with_reducible refine wpOrdG_nil ?_); refine NoPanic.normal ?_
          have hb2 := undrew hb1
          clear w1'
          go_wp2
          go_roundw
          case rel =>
            have hm0 := HM0.out; have he0 := HE0.out
            refine ⟨q + 1, hi, by go_num, rfl, hq2, by omega, hhm, hhm2, by have := HLM.out; omega, Or.inr ?_, H2.out, HT.out.mono hb2, grown_trans hg (grown_row' hb2)⟩
            have e1 : q + 1 - a - 1 = q - a := by omega
            have e2 : M - (q + 1 - a) = M - 1 - (q - a) := by omega
            simp only [e1, e2]
            refine ⟨hql, hqr, by omega, ?_⟩
            have h5 := HBf.out; rw [HX.out, HY.out] at h5; exact h5
          case measure => simp [intOf] <;> omega
      · obtain rfl : lo = hi := by omega
        obtain ⟨L1, L2, R1, R2, l1, l2, l3, l4, s1, s2, s3, s4, he, hfin⟩ := sym_parts (A := A) (C := C) HL.out HR.out h1 h2 (by omega) (by omega) (by omega)
        rw [he] at hT
        obtain ⟨en, hen⟩ : ∃ en : Nat, en = mid + m - lo := ⟨_, rfl⟩
        have EE := Lib.hid (show (n0 : Int) - (lo : Int) = (en : Int) by omega)
        have hsum : L1.length + R1.length < L.length + R.length ∧ L2.length + R2.length < L.length + R.length := by omega
        have z1 : A.length + L1.length = lo := by rw [HA.out]; omega
        have z2 : lo + L2.length = m := by omega
        have z3 : m + R1.length = en := by omega
        have z4 : en + R2.length = b := by omega
        have z5 : lo + R1.length = mid := by omega
        have z6 : mid + L2.length = en := by omega
        have i1 : mid ≤ en := by omega
        have i2 : lo ≤ m := by omega
        have i3 : m ≤ en := by omega
        have i4 : lo ≤ mid := by omega
        have i5 : en ≤ b := by omega
        have i6 : lo ≤ n0 := by omega
        have i7 : n0 ≤ 3000000 := by omega
        have S1 := Lib.hid s1; have S2 := Lib.hid s2; have S3 := Lib.hid s3; have S4 := Lib.hid s4; have FN := Lib.hid hfin; have HS := Lib.hid hsum
        have Z1 := Lib.hid z1; have Z2 := Lib.hid z2; have Z3 := Lib.hid z3; have Z4 := Lib.hid z4; have Z5 := Lib.hid z5; have Z6 := Lib.hid z6
        have hT0 := Lib.hid hT
        clear l1 l2 l3 l4 s1 s2 s3 s4 he hfin hsum z1 z2 z3 z4 z5 z6 hT h1 h2 hE0 hB0 hM0 hen hn0 hp0
        have d9 : decide ((lo : Int) < (lo : Int)) = false := by simp
        by_cases r1 : lo < m
        · have f1 : decide ((lo : Int) < (m : Int)) = true := by simp; omega
          by_cases r2 : m < en
          · have f2 : decide ((m : Int) < (n0 : Int) - (lo : Int)) = true := by rw [EE.out]; simp; omega
            go_wp2_with fail
            simp only [EE.out]
            refine (rotate_any base g n cap lo m en (.func (.func 43) #[] #[]) (A ++ L1) L2 R1 (R2 ++ C) _ hT0.out hn (by rw [List.length_append]; exact Z1.out) (by rw [List.length_append, Z1.out]; exact Z2.out) (by rw [List.length_append, Z1.out]; have := Z2.out; have := Z3.out; omega) (by have := Z2.out; omega) (by have := Z3.out; omega)).mono ?_
            rintro e w1 ⟨rfl, hT1, hg1⟩
            have HT1 := Lib.hid hT1
            have hg := grown_trans hg hg1
            clear hT1 hg1
            by_cases r3 : a < lo
            · have f3 : decide ((a : Int) < (lo : Int)) = true := by simp; omega
              by_cases r4 : lo < mid
              · have f4 : decide ((lo : Int) < (mid : Int)) = true := by simp; omega
                go_wp2_with fail
                have cl := IH.out a lo mid A L1 R1 (L2 ++ (R2 ++ C)) _ (by have := HT1.out; rw [List.append_assoc] at this; exact this) HA.out (by have := Z1.out; rw [HA.out] at this; exact this) Z5.out (by have := Z1.out; have := HA.out; omega) (by have := Z5.out; omega) HS.out.1 S1.out S3.out
                unfold SymTo at cl
                refine cl.mono ?_
                rintro e w2 ⟨rfl, ⟨X1, p1, o1, hT2⟩, hg2⟩
                have HT2 := Lib.hid hT2; have P1 := Lib.hid p1; have O1 := Lib.hid o1
                have hg := grown_trans hg hg2
                clear hT2 hg2 p1 o1 cl
                by_cases r5 : mid < en
                · have f5 : decide ((mid : Int) < (en : Int)) = true := by simp; omega
                  have f5' : decide ((mid : Int) < (n0 : Int) - (lo : Int)) = true := by rw [EE.out]; simp; omega
                  by_cases r6 : en < b
                  · have f6 : decide ((en : Int) < (b : Int)) = true := by simp; omega
                    have f6' : decide ((n0 : Int) - (lo : Int) < (b : Int)) = true := by rw [EE.out]; simp; omega
                    go_wp2_with fail
                    try simp only [EE.out]
                    have cl := IH.out mid en b (A ++ X1) L2 R2 C _ (by have := HT2.out; rw [← List.append_assoc] at this; exact this) (by rw [List.length_append, P1.out.length_eq, List.length_append]; have := Z1.out; have := Z5.out; omega) Z6.out Z4.out (by have := Z6.out; omega) (by have := Z4.out; omega) HS.out.2 S2.out S4.out
                    unfold SymTo at cl
                    refine cl.mono ?_
                    rintro e w3 ⟨rfl, ⟨X2, p2, o2, hT3⟩, hg3⟩
                    have HT3 := Lib.hid hT3; have P2 := Lib.hid p2; have O2 := Lib.hid o2
                    have hg := grown_trans hg hg3
                    clear hT3 hg3 p2 o2 cl
                    go_wp2
                    go_end0
                    exact ⟨rfl, ⟨X1 ++ X2, (FN.out X1 X2 P1.out P2.out O1.out O2.out).1, (FN.out X1 X2 P1.out P2.out O1.out O2.out).2, by have := HT3.out; simp only [List.append_assoc] at this ⊢; exact this⟩, hg⟩
                  · have f6 : decide ((en : Int) < (b : Int)) = false := by simp; omega
                    have f6' : decide ((n0 : Int) - (lo : Int) < (b : Int)) = false := by rw [EE.out]; simp; omega
                    go_wp2
                    go_end0
                    have O2 : Srt (L2 ++ R2) := srt_two S2.out S4.out (Or.inr (by have := Z4.out; omega))
                    exact ⟨rfl, ⟨X1 ++ (L2 ++ R2), (FN.out X1 _ P1.out (List.Perm.refl _) O1.out O2).1, (FN.out X1 _ P1.out (List.Perm.refl _) O1.out O2).2, by have := HT2.out; simp only [List.append_assoc] at this ⊢; exact this⟩, hg⟩
                · have f5 : decide ((mid : Int) < (en : Int)) = false := by simp; omega
                  have f5' : decide ((mid : Int) < (n0 : Int) - (lo : Int)) = false := by rw [EE.out]; simp; omega
                  go_wp2
                  go_end0
                  have O2 : Srt (L2 ++ R2) := srt_two S2.out S4.out (Or.inl (by have := Z6.out; omega))
                  exact ⟨rfl, ⟨X1 ++ (L2 ++ R2), (FN.out X1 _ P1.out (List.Perm.refl _) O1.out O2).1, (FN.out X1 _ P1.out (List.Perm.refl _) O1.out O2).2, by have := HT2.out; simp only [List.append_assoc] at this ⊢; exact this⟩, hg⟩
              · have f4 : decide ((lo : Int) < (mid : Int)) = false := by simp; omega
                have HT2 := Lib.hid (show TR w1 base g n cap (A ++ ((L1 ++ R1) ++ (L2 ++ (R2 ++ C)))) by have := HT1.out; simp only [List.append_assoc] at this ⊢; exact this)
                obtain ⟨X1, hX1⟩ : ∃ X1, X1 = L1 ++ R1 := ⟨_, rfl⟩
                rw [← hX1] at HT2
                have P1 := Lib.hid (show X1.Perm (L1 ++ R1) by rw [hX1])
                have O1 := Lib.hid (show Srt X1 by rw [hX1]; exact srt_two S1.out S3.out (Or.inr (by have := Z5.out; omega)))
                clear hX1
                by_cases r5 : mid < en
                · have f5 : decide ((mid : Int) < (en : Int)) = true := by simp; omega
                  have f5' : decide ((mid : Int) < (n0 : Int) - (lo : Int)) = true := by rw [EE.out]; simp; omega
                  by_cases r6 : en < b
                  · have f6 : decide ((en : Int) < (b : Int)) = true := by simp; omega
                    have f6' : decide ((n0 : Int) - (lo : Int) < (b : Int)) = true := by rw [EE.out]; simp; omega
                    go_wp2_with fail
                    try simp only [EE.out]
                    have cl := IH.out mid en b (A ++ X1) L2 R2 C _ (by have := HT2.out; rw [← List.append_assoc] at this; exact this) (by rw [List.length_append, P1.out.length_eq, List.length_append]; have := Z1.out; have := Z5.out; omega) Z6.out Z4.out (by have := Z6.out; omega) (by have := Z4.out; omega) HS.out.2 S2.out S4.out
                    unfold SymTo at cl
                    refine cl.mono ?_
                    rintro e w3 ⟨rfl, ⟨X2, p2, o2, hT3⟩, hg3⟩
                    have HT3 := Lib.hid hT3; have P2 := Lib.hid p2; have O2 := Lib.hid o2
                    have hg := grown_trans hg hg3
                    clear hT3 hg3 p2 o2 cl
                    go_wp2
                    go_end0
                    exact ⟨rfl, ⟨X1 ++ X2, (FN.out X1 X2 P1.out P2.out O1.out O2.out).1, (FN.out X1 X2 P1.out P2.out O1.out O2.out).2, by have := HT3.out; simp only [List.append_assoc] at this ⊢; exact this⟩, hg⟩
                  · have f6 : decide ((en : Int) < (b : Int)) = false := by simp; omega
                    have f6' : decide ((n0 : Int) - (lo : Int) < (b : Int)) = false := by rw [EE.out]; simp; omega
                    go_wp2
                    go_end0
                    have O2 : Srt (L2 ++ R2) := srt_two S2.out S4.out (Or.inr (by have := Z4.out; omega))
                    exact ⟨rfl, ⟨X1 ++ (L2 ++ R2), (FN.out X1 _ P1.out (List.Perm.refl _) O1.out O2).1, (FN.out X1 _ P1.out (List.Perm.refl _) O1.out O2).2, by have := HT2.out; simp only [List.append_assoc] at this ⊢; exact this⟩, hg⟩
                · have f5 : decide ((mid : Int) < (en : Int)) = false := by simp; omega
                  have f5' : decide ((mid : Int) < (n0 : Int) - (lo : Int)) = false := by rw [EE.out]; simp; omega
                  go_wp2
                  go_end0
                  have O2 : Srt (L2 ++ R2) := srt_two S2.out S4.out (Or.inl (by have := Z6.out; omega))
                  exact ⟨rfl, ⟨X1 ++ (L2 ++ R2), (FN.out X1 _ P1.out (List.Perm.refl _) O1.out O2).1, (FN.out X1 _ P1.out (List.Perm.refl _) O1.out O2).2, by have := HT2.out; simp only [List.append_assoc] at this ⊢; exact this⟩, hg⟩
            · have f3 : decide ((a : Int) < (lo : Int)) = false := by simp; omega
              have HT2 := Lib.hid (show TR w1 base g n cap (A ++ ((L1 ++ R1) ++ (L2 ++ (R2 ++ C)))) by have := HT1.out; simp only [List.append_assoc] at this ⊢; exact this)
              obtain ⟨X1, hX1⟩ : ∃ X1, X1 = L1 ++ R1 := ⟨_, rfl⟩
              rw [← hX1] at HT2
              have P1 := Lib.hid (show X1.Perm (L1 ++ R1) by rw [hX1])
              have O1 := Lib.hid (show Srt X1 by rw [hX1]; exact srt_two S1.out S3.out (Or.inl (by have := Z1.out; have := HA.out; omega)))
              clear hX1
              by_cases r5 : mid < en
              · have f5 : decide ((mid : Int) < (en : Int)) = true := by simp; omega
                have f5' : decide ((mid : Int) < (n0 : Int) - (lo : Int)) = true := by rw [EE.out]; simp; omega
                by_cases r6 : en < b
                · have f6 : decide ((en : Int) < (b : Int)) = true := by simp; omega
                  have f6' : decide ((n0 : Int) - (lo : Int) < (b : Int)) = true := by rw [EE.out]; simp; omega
                  go_wp2_with fail
                  try simp only [EE.out]
                  have cl := IH.out mid en b (A ++ X1) L2 R2 C _ (by have := HT2.out; rw [← List.append_assoc] at this; exact this) (by rw [List.length_append, P1.out.length_eq, List.length_append]; have := Z1.out; have := Z5.out; omega) Z6.out Z4.out (by have := Z6.out; omega) (by have := Z4.out; omega) HS.out.2 S2.out S4.out
                  unfold SymTo at cl
                  refine cl.mono ?_
                  rintro e w3 ⟨rfl, ⟨X2, p2, o2, hT3⟩, hg3⟩
                  have HT3 := Lib.hid hT3; have P2 := Lib.hid p2; have O2 := Lib.hid o2
                  have hg := grown_trans hg hg3
                  clear hT3 hg3 p2 o2 cl
                  go_wp2
                  go_end0
                  exact ⟨rfl, ⟨X1 ++ X2, (FN.out X1 X2 P1.out P2.out O1.out O2.out).1, (FN.out X1 X2 P1.out P2.out O1.out O2.out).2, by have := HT3.out; simp only [List.append_assoc] at this ⊢; exact this⟩, hg⟩
                · have f6 : decide ((en : Int) < (b : Int)) = false := by simp; omega
                  have f6' : decide ((n0 : Int) - (lo : Int) < (b : Int)) = false := by rw [EE.out]; simp; omega
                  go_wp2
                  go_end0
                  have O2 : Srt (L2 ++ R2) := srt_two S2.out S4.out (Or.inr (by have := Z4.out; omega))
                  exact ⟨rfl, ⟨X1 ++ (L2 ++ R2), (FN.out X1 _ P1.out (List.Perm.refl _) O1.out O2).1, (FN.out X1 _ P1.out (List.Perm.refl _) O1.out O2).2, by have := HT2.out; simp only [List.append_assoc] at this ⊢; exact this⟩, hg⟩
              · have f5 : decide ((mid : Int) < (en : Int)) = false := by simp; omega
                have f5' : decide ((mid : Int) < (n0 : Int) - (lo : Int)) = false := by rw [EE.out]; simp; omega
                go_wp2
                go_end0
                have O2 : Srt (L2 ++ R2) := srt_two S2.out S4.out (Or.inl (by have := Z6.out; omega))
                exact ⟨rfl, ⟨X1 ++ (L2 ++ R2), (FN.out X1 _ P1.out (List.Perm.refl _) O1.out O2).1, (FN.out X1 _ P1.out (List.Perm.refl _) O1.out O2).2, by have := HT2.out; simp only [List.append_assoc] at this ⊢; exact this⟩, hg⟩
          · have f2 : decide ((m : Int) < (n0 : Int) - (lo : Int)) = false := by rw [EE.out]; simp; omega
            have HT1 := Lib.hid (show TR wr base g n cap ((A ++ L1) ++ (R1 ++ (L2 ++ (R2 ++ C)))) by rw [← sym_swap0 A L2 R1 L1 (R2 ++ C) (Or.inr (by have := Z3.out; omega))]; exact hT0.out)
            by_cases r3 : a < lo
            · have f3 : decide ((a : Int) < (lo : Int)) = true := by simp; omega
              by_cases r4 : lo < mid
              · have f4 : decide ((lo : Int) < (mid : Int)) = true := by simp; omega
                go_wp2_with fail
                have cl := IH.out a lo mid A L1 R1 (L2 ++ (R2 ++ C)) _ (by have := HT1.out; rw [List.append_assoc] at this; exact this) HA.out (by have := Z1.out; rw [HA.out] at this; exact this) Z5.out (by have := Z1.out; have := HA.out; omega) (by have := Z5.out; omega) HS.out.1 S1.out S3.out
                unfold SymTo at cl
                refine cl.mono ?_
                rintro e w2 ⟨rfl, ⟨X1, p1, o1, hT2⟩, hg2⟩
                have HT2 := Lib.hid hT2; have P1 := Lib.hid p1; have O1 := Lib.hid o1
                have hg := grown_trans hg hg2
                clear hT2 hg2 p1 o1 cl
                by_cases r5 : mid < en
                · have f5 : decide ((mid : Int) < (en : Int)) = true := by simp; omega
                  have f5' : decide ((mid : Int) < (n0 : Int) - (lo : Int)) = true := by rw [EE.out]; simp; omega
                  by_cases r6 : en < b
                  · have f6 : decide ((en : Int) < (b : Int)) = true := by simp; omega
                    have f6' : decide ((n0 : Int) - (lo : Int) < (b : Int)) = true := by rw [EE.out]; simp; omega
                    go_wp2_with fail
                    try simp only [EE.out]
                    have cl := IH.out mid en b (A ++ X1) L2 R2 C _ (by have := HT2.out; rw [← List.append_assoc] at this; exact this) (by rw [List.length_append, P1.out.length_eq, List.length_append]; have := Z1.out; have := Z5.out; omega) Z6.out Z4.out (by have := Z6.out; omega) (by have := Z4.out; omega) HS.out.2 S2.out S4.out
                    unfold SymTo at cl
                    refine cl.mono ?_
                    rintro e w3 ⟨rfl, ⟨X2, p2, o2, hT3⟩, hg3⟩
                    have HT3 := Lib.hid hT3; have P2 := Lib.hid p2; have O2 := Lib.hid o2
                    have hg := grown_trans hg hg3
                    clear hT3 hg3 p2 o2 cl
                    go_wp2
                    go_end0
                    exact ⟨rfl, ⟨X1 ++ X2, (FN.out X1 X2 P1.out P2.out O1.out O2.out).1, (FN.out X1 X2 P1.out P2.out O1.out O2.out).2, by have := HT3.out; simp only [List.append_assoc] at this ⊢; exact this⟩, hg⟩
                  · have f6 : decide ((en : Int) < (b : Int)) = false := by simp; omega
                    have f6' : decide ((n0 : Int) - (lo : Int) < (b : Int)) = false := by rw [EE.out]; simp; omega
                    go_wp2
                    go_end0
                    have O2 : Srt (L2 ++ R2) := srt_two S2.out S4.out (Or.inr (by have := Z4.out; omega))
                    exact ⟨rfl, ⟨X1 ++ (L2 ++ R2), (FN.out X1 _ P1.out (List.Perm.refl _) O1.out O2).1, (FN.out X1 _ P1.out (List.Perm.refl _) O1.out O2).2, by have := HT2.out; simp only [List.append_assoc] at this ⊢; exact this⟩, hg⟩
                · have f5 : decide ((mid : Int) < (en : Int)) = false := by simp; omega
                  have f5' : decide ((mid : Int) < (n0 : Int) - (lo : Int)) = false := by rw [EE.out]; simp; omega
                  go_wp2
                  go_end0
                  have O2 : Srt (L2 ++ R2) := srt_two S2.out S4.out (Or.inl (by have := Z6.out; omega))
                  exact ⟨rfl, ⟨X1 ++ (L2 ++ R2), (FN.out X1 _ P1.out (List.Perm.refl _) O1.out O2).1, (FN.out X1 _ P1.out (List.Perm.refl _) O1.out O2).2, by have := HT2.out; simp only [List.append_assoc] at this ⊢; exact this⟩, hg⟩
              · have f4 : decide ((lo : Int) < (mid : Int)) = false := by simp; omega
                have HT2 := Lib.hid (show TR wr base g n cap (A ++ ((L1 ++ R1) ++ (L2 ++ (R2 ++ C)))) by have := HT1.out; simp only [List.append_assoc] at this ⊢; exact this)
                obtain ⟨X1, hX1⟩ : ∃ X1, X1 = L1 ++ R1 := ⟨_, rfl⟩
                rw [← hX1] at HT2
                have P1 := Lib.hid (show X1.Perm (L1 ++ R1) by rw [hX1])
                have O1 := Lib.hid (show Srt X1 by rw [hX1]; exact srt_two S1.out S3.out (Or.inr (by have := Z5.out; omega)))
                clear hX1
                by_cases r5 : mid < en
                · have f5 : decide ((mid : Int) < (en : Int)) = true := by simp; omega
                  have f5' : decide ((mid : Int) < (n0 : Int) - (lo : Int)) = true := by rw [EE.out]; simp; omega
                  by_cases r6 : en < b
                  · have f6 : decide ((en : Int) < (b : Int)) = true := by simp; omega
                    have f6' : decide ((n0 : Int) - (lo : Int) < (b : Int)) = true := by rw [EE.out]; simp; omega
                    go_wp2_with fail
                    try simp only [EE.out]
                    have cl := IH.out mid en b (A ++ X1) L2 R2 C _ (by have := HT2.out; rw [← List.append_assoc] at this; exact this) (by rw [List.length_append, P1.out.length_eq, List.length_append]; have := Z1.out; have := Z5.out; omega) Z6.out Z4.out (by have := Z6.out; omega) (by have := Z4.out; omega) HS.out.2 S2.out S4.out
                    unfold SymTo at cl
                    refine cl.mono ?_
                    rintro e w3 ⟨rfl, ⟨X2, p2, o2, hT3⟩, hg3⟩
                    have HT3 := Lib.hid hT3; have P2 := Lib.hid p2; have O2 := Lib.hid o2
                    have hg := grown_trans hg hg3
                    clear hT3 hg3 p2 o2 cl
                    go_wp2
                    go_end0
                    exact ⟨rfl, ⟨X1 ++ X2, (FN.out X1 X2 P1.out P2.out O1.out O2.out).1, (FN.out X1 X2 P1.out P2.out O1.out O2.out).2, by have := HT3.out; simp only [List.append_assoc] at this ⊢; exact this⟩, hg⟩
                  · have f6 : decide ((en : Int) < (b : Int)) = false := by simp; omega
                    have f6' : decide ((n0 : Int) - (lo : Int) < (b : Int)) = false := by rw [EE.out]; simp; omega
                    go_wp2
                    go_end0
                    have O2 : Srt (L2 ++ R2) := srt_two S2.out S4.out (Or.inr (by have := Z4.out; omega))
                    exact ⟨rfl, ⟨X1 ++ (L2 ++ R2), (FN.out X1 _ P1.out (List.Perm.refl _) O1.out O2).1, (FN.out X1 _ P1.out (List.Perm.refl _) O1.out O2).2, by have := HT2.out; simp only [List.append_assoc] at this ⊢; exact this⟩, hg⟩
                · have f5 : decide ((mid : Int) < (en : Int)) = false := by simp; omega
                  have f5' : decide ((mid : Int) < (n0 : Int) - (lo : Int)) = false := by rw [EE.out]; simp; omega
                  go_wp2
                  go_end0
                  have O2 : Srt (L2 ++ R2) := srt_two S2.out S4.out (Or.inl (by have := Z6.out; omega))
                  exact ⟨rfl, ⟨X1 ++ (L2 ++ R2), (FN.out X1 _ P1.out (List.Perm.refl _) O1.out O2).1, (FN.out X1 _ P1.out (List.Perm.refl _) O1.out O2).2, by have := HT2.out; simp only [List.append_assoc] at this ⊢; exact this⟩, hg⟩
            · have f3 : decide ((a : Int) < (lo : Int)) = false := by simp; omega
              have HT2 := Lib.hid (show TR wr base g n cap (A ++ ((L1 ++ R1) ++ (L2 ++ (R2 ++ C)))) by have := HT1.out; simp only [List.append_assoc] at this ⊢; exact this)
              obtain ⟨X1, hX1⟩ : ∃ X1, X1 = L1 ++ R1 := ⟨_, rfl⟩
              rw [← hX1] at HT2
              have P1 := Lib.hid (show X1.Perm (L1 ++ R1) by rw [hX1])
              have O1 := Lib.hid (show Srt X1 by rw [hX1]; exact srt_two S1.out S3.out (Or.inl (by have := Z1.out; have := HA.out; omega)))
              clear hX1
              by_cases r5 : mid < en
              · have f5 : decide ((mid : Int) < (en : Int)) = true := by simp; omega
                have f5' : decide ((mid : Int) < (n0 : Int) - (lo : Int)) = true := by rw [EE.out]; simp; omega
                by_cases r6 : en < b
                · have f6 : decide ((en : Int) < (b : Int)) = true := by simp; omega
                  have f6' : decide ((n0 : Int) - (lo : Int) < (b : Int)) = true := by rw [EE.out]; simp; omega
                  go_wp2_with fail
                  try simp only [EE.out]
                  have cl := IH.out mid en b (A ++ X1) L2 R2 C _ (by have := HT2.out; rw [← List.append_assoc] at this; exact this) (by rw [List.length_append, P1.out.length_eq, List.length_append]; have := Z1.out; have := Z5.out; omega) Z6.out Z4.out (by have := Z6.out; omega) (by have := Z4.out; omega) HS.out.2 S2.out S4.out
                  unfold SymTo at cl
                  refine cl.mono ?_
                  rintro e w3 ⟨rfl, ⟨X2, p2, o2, hT3⟩, hg3⟩
                  have HT3 := Lib.hid hT3; have P2 := Lib.hid p2; have O2 := Lib.hid o2
                  have hg := grown_trans hg hg3
                  clear hT3 hg3 p2 o2 cl
                  go_wp2
                  go_end0
                  exact ⟨rfl, ⟨X1 ++ X2, (FN.out X1 X2 P1.out P2.out O1.out O2.out).1, (FN.out X1 X2 P1.out P2.out O1.out O2.out).2, by have := HT3.out; simp only [List.append_assoc] at this ⊢; exact this⟩, hg⟩
                · have f6 : decide ((en : Int) < (b : Int)) = false := by simp; omega
                  have f6' : decide ((n0 : Int) - (lo : Int) < (b : Int)) = false := by rw [EE.out]; simp; omega
                  go_wp2
                  go_end0
                  have O2 : Srt (L2 ++ R2) := srt_two S2.out S4.out (Or.inr (by have := Z4.out; omega))
                  exact ⟨rfl, ⟨X1 ++ (L2 ++ R2), (FN.out X1 _ P1.out (List.Perm.refl _) O1.out O2).1, (FN.out X1 _ P1.out (List.Perm.refl _) O1.out O2).2, by have := HT2.out; simp only [List.append_assoc] at this ⊢; exact this⟩, hg⟩
              · have f5 : decide ((mid : Int) < (en : Int)) = false := by simp; omega
                have f5' : decide ((mid : Int) < (n0 : Int) - (lo : Int)) = false := by rw [EE.out]; simp; omega
                go_wp2
                go_end0
                have O2 : Srt (L2 ++ R2) := srt_two S2.out S4.out (Or.inl (by have := Z6.out; omega))
                exact ⟨rfl, ⟨X1 ++ (L2 ++ R2), (FN.out X1 _ P1.out (List.Perm.refl _) O1.out O2).1, (FN.out X1 _ P1.out (List.Perm.refl _) O1.out O2).2, by have := HT2.out; simp only [List.append_assoc] at this ⊢; exact this⟩, hg⟩
        · have f1 : decide ((lo : Int) < (m : Int)) = false := by simp; omega
          have HT1 := Lib.hid (show TR wr base g n cap ((A ++ L1) ++ (R1 ++ (L2 ++ (R2 ++ C)))) by rw [← sym_swap0 A L2 R1 L1 (R2 ++ C) (Or.inl (by have := Z2.out; omega))]; exact hT0.out)
          by_cases r3 : a < lo
          · have f3 : decide ((a : Int) < (lo : Int)) = true := by simp; omega
            by_cases r4 : lo < mid
            · have f4 : decide ((lo : Int) < (mid : Int)) = true := by simp; omega
              go_wp2_with fail
              have cl := IH.out a lo mid A L1 R1 (L2 ++ (R2 ++ C)) _ (by have := HT1.out; rw [List.append_assoc] at this; exact this) HA.out (by have := Z1.out; rw [HA.out] at this; exact this) Z5.out (by have := Z1.out; have := HA.out; omega) (by have := Z5.out; omega) HS.out.1 S1.out S3.out
              unfold SymTo at cl
              refine cl.mono ?_
              rintro e w2 ⟨rfl, ⟨X1, p1, o1, hT2⟩, hg2⟩
              have HT2 := Lib.hid hT2; have P1 := Lib.hid p1; have O1 := Lib.hid o1
              have hg := grown_trans hg hg2
              clear hT2 hg2 p1 o1 cl
              by_cases r5 : mid < en
              · have f5 : decide ((mid : Int) < (en : Int)) = true := by simp; omega
                have f5' : decide ((mid : Int) < (n0 : Int) - (lo : Int)) = true := by rw [EE.out]; simp; omega
                by_cases r6 : en < b
                · have f6 : decide ((en : Int) < (b : Int)) = true := by simp; omega
                  have f6' : decide ((n0 : Int) - (lo : Int) < (b : Int)) = true := by rw [EE.out]; simp; omega
                  go_wp2_with fail
                  try simp only [EE.out]
                  have cl := IH.out mid en b (A ++ X1) L2 R2 C _ (by have := HT2.out; rw [← List.append_assoc] at this; exact this) (by rw [List.length_append, P1.out.length_eq, List.length_append]; have := Z1.out; have := Z5.out; omega) Z6.out Z4.out (by have := Z6.out; omega) (by have := Z4.out; omega) HS.out.2 S2.out S4.out
                  unfold SymTo at cl
                  refine cl.mono ?_
                  rintro e w3 ⟨rfl, ⟨X2, p2, o2, hT3⟩, hg3⟩
                  have HT3 := Lib.hid hT3; have P2 := Lib.hid p2; have O2 := Lib.hid o2
                  have hg := grown_trans hg hg3
                  clear hT3 hg3 p2 o2 cl
                  go_wp2
                  go_end0
                  exact ⟨rfl, ⟨X1 ++ X2, (FN.out X1 X2 P1.out P2.out O1.out O2.out).1, (FN.out X1 X2 P1.out P2.out O1.out O2.out).2, by have := HT3.out; simp only [List.append_assoc] at this ⊢; exact this⟩, hg⟩
                · have f6 : decide ((en : Int) < (b : Int)) = false := by simp; omega
                  have f6' : decide ((n0 : Int) - (lo : Int) < (b : Int)) = false := by rw [EE.out]; simp; omega
                  go_wp2
                  go_end0
                  have O2 : Srt (L2 ++ R2) := srt_two S2.out S4.out (Or.inr (by have := Z4.out; omega))
                  exact ⟨rfl, ⟨X1 ++ (L2 ++ R2), (FN.out X1 _ P1.out (List.Perm.refl _) O1.out O2).1, (FN.out X1 _ P1.out (List.Perm.refl _) O1.out O2).2, by have := HT2.out; simp only [List.append_assoc] at this ⊢; exact this⟩, hg⟩
              · have f5 : decide ((mid : Int) < (en : Int)) = false := by simp; omega
                have f5' : decide ((mid : Int) < (n0 : Int) - (lo : Int)) = false := by rw [EE.out]; simp; omega
                go_wp2
                go_end0
                have O2 : Srt (L2 ++ R2) := srt_two S2.out S4.out (Or.inl (by have := Z6.out; omega))
                exact ⟨rfl, ⟨X1 ++ (L2 ++ R2), (FN.out X1 _ P1.out (List.Perm.refl _) O1.out O2).1, (FN.out X1 _ P1.out (List.Perm.refl _) O1.out O2).2, by have := HT2.out; simp only [List.append_assoc] at this ⊢; exact this⟩, hg⟩
            · have f4 : decide ((lo : Int) < (mid : Int)) = false := by simp; omega
              have HT2 := Lib.hid (show TR wr base g n cap (A ++ ((L1 ++ R1) ++ (L2 ++ (R2 ++ C)))) by have := HT1.out; simp only [List.append_assoc] at this ⊢; exact this)
              obtain ⟨X1, hX1⟩ : ∃ X1, X1 = L1 ++ R1 := ⟨_, rfl⟩
              rw [← hX1] at HT2
              have P1 := Lib.hid (show X1.Perm (L1 ++ R1) by rw [hX1])
              have O1 := Lib.hid (show Srt X1 by rw [hX1]; exact srt_two S1.out S3.out (Or.inr (by have := Z5.out; omega)))
              clear hX1
              by_cases r5 : mid < en
              · have f5 : decide ((mid : Int) < (en : Int)) = true := by simp; omega
                have f5' : decide ((mid : Int) < (n0 : Int) - (lo : Int)) = true := by rw [EE.out]; simp; omega
                by_cases r6 : en < b
                · have f6 : decide ((en : Int) < (b : Int)) = true := by simp; omega
                  have f6' : decide ((n0 : Int) - (lo : Int) < (b : Int)) = true := by rw [EE.out]; simp; omega
                  go_wp2_with fail
                  try simp only [EE.out]
                  have cl := IH.out mid en b (A ++ X1) L2 R2 C _ (by have := HT2.out; rw [← List.append_assoc] at this; exact this) (by rw [List.length_append, P1.out.length_eq, List.length_append]; have := Z1.out; have := Z5.out; omega) Z6.out Z4.out (by have := Z6.out; omega) (by have := Z4.out; omega) HS.out.2 S2.out S4.out
                  unfold SymTo at cl
                  refine cl.mono ?_
                  rintro e w3 ⟨rfl, ⟨X2, p2, o2, hT3⟩, hg3⟩
                  have HT3 := Lib.hid hT3; have P2 := Lib.hid p2; have O2 := Lib.hid o2
                  have hg := grown_trans hg hg3
                  clear hT3 hg3 p2 o2 cl
                  go_wp2
                  go_end0
                  exact ⟨rfl, ⟨X1 ++ X2, (FN.out X1 X2 P1.out P2.out O1.out O2.out).1, (FN.out X1 X2 P1.out P2.out O1.out O2.out).2, by have := HT3.out; simp only [List.append_assoc] at this ⊢; exact this⟩, hg⟩
                · have f6 : decide ((en : Int) < (b : Int)) = false := by simp; omega
                  have f6' : decide ((n0 : Int) - (lo : Int) < (b : Int)) = false := by rw [EE.out]; simp; omega
                  go_wp2
                  go_end0
                  have O2 : Srt (L2 ++ R2) := srt_two S2.out S4.out (Or.inr (by have := Z4.out; omega))
                  exact ⟨rfl, ⟨X1 ++ (L2 ++ R2), (FN.out X1 _ P1.out (List.Perm.refl _) O1.out O2).1, (FN.out X1 _ P1.out (List.Perm.refl _) O1.out O2).2, by have := HT2.out; simp only [List.append_assoc] at this ⊢; exact this⟩, hg⟩
              · have f5 : decide ((mid : Int) < (en : Int)) = false := by simp; omega
                have f5' : decide ((mid : Int) < (n0 : Int) - (lo : Int)) = false := by rw [EE.out]; simp; omega
                go_wp2
                go_end0
                have O2 : Srt (L2 ++ R2) := srt_two S2.out S4.out (Or.inl (by have := Z6.out; omega))
                exact ⟨rfl, ⟨X1 ++ (L2 ++ R2), (FN.out X1 _ P1.out (List.Perm.refl _) O1.out O2).1, (FN.out X1 _ P1.out (List.Perm.refl _) O1.out O2).2, by have := HT2.out; simp only [List.append_assoc] at this ⊢; exact this⟩, hg⟩
          · have f3 : decide ((a : Int) < (lo : Int)) = false := by simp; omega
            have HT2 := Lib.hid (show TR wr base g n cap (A ++ ((L1 ++ R1) ++ (L2 ++ (R2 ++ C)))) by have := HT1.out; simp only [List.append_assoc] at this ⊢; exact this)
            obtain ⟨X1, hX1⟩ : ∃ X1, X1 = L1 ++ R1 := ⟨_, rfl⟩
            rw [← hX1] at HT2
            have P1 := Lib.hid (show X1.Perm (L1 ++ R1) by rw [hX1])
            have O1 := Lib.hid (show Srt X1 by rw [hX1]; exact srt_two S1.out S3.out (Or.inl (by have := Z1.out; have := HA.out; omega)))
            clear hX1
            by_cases r5 : mid < en
            · have f5 : decide ((mid : Int) < (en : Int)) = true := by simp; omega
              have f5' : decide ((mid : Int) < (n0 : Int) - (lo : Int)) = true := by rw [EE.out]; simp; omega
              by_cases r6 : en < b
              · have f6 : decide ((en : Int) < (b : Int)) = true := by simp; omega
                have f6' : decide ((n0 : Int) - (lo : Int) < (b : Int)) = true := by rw [EE.out]; simp; omega
                go_wp2_with fail
                try simp only [EE.out]
                have cl := IH.out mid en b (A ++ X1) L2 R2 C _ (by have := HT2.out; rw [← List.append_assoc] at this; exact this) (by rw [List.length_append, P1.out.length_eq, List.length_append]; have := Z1.out; have := Z5.out; omega) Z6.out Z4.out (by have := Z6.out; omega) (by have := Z4.out; omega) HS.out.2 S2.out S4.out
                unfold SymTo at cl
                refine cl.mono ?_
                rintro e w3 ⟨rfl, ⟨X2, p2, o2, hT3⟩, hg3⟩
                have HT3 := Lib.hid hT3; have P2 := Lib.hid p2; have O2 := Lib.hid o2
                have hg := grown_trans hg hg3
                clear hT3 hg3 p2 o2 cl
                go_wp2
                go_end0
                exact ⟨rfl, ⟨X1 ++ X2, (FN.out X1 X2 P1.out P2.out O1.out O2.out).1, (FN.out X1 X2 P1.out P2.out O1.out O2.out).2, by have := HT3.out; simp only [List.append_assoc] at this ⊢; exact this⟩, hg⟩
              · have f6 : decide ((en : Int) < (b : Int)) = false := by simp; omega
                have f6' : decide ((n0 : Int) - (lo : Int) < (b : Int)) = false := by rw [EE.out]; simp; omega
                go_wp2
                go_end0
                have O2 : Srt (L2 ++ R2) := srt_two S2.out S4.out (Or.inr (by have := Z4.out; omega))
                exact ⟨rfl, ⟨X1 ++ (L2 ++ R2), (FN.out X1 _ P1.out (List.Perm.refl _) O1.out O2).1, (FN.out X1 _ P1.out (List.Perm.refl _) O1.out O2).2, by have := HT2.out; simp only [List.append_assoc] at this ⊢; exact this⟩, hg⟩
            · have f5 : decide ((mid : Int) < (en : Int)) = false := by simp; omega
              have f5' : decide ((mid : Int) < (n0 : Int) - (lo : Int)) = false := by rw [EE.out]; simp; omega
              go_wp2
              go_end0
              have O2 : Srt (L2 ++ R2) := srt_two S2.out S4.out (Or.inl (by have := Z6.out; omega))
              exact ⟨rfl, ⟨X1 ++ (L2 ++ R2), (FN.out X1 _ P1.out (List.Perm.refl _) O1.out O2).1, (FN.out X1 _ P1.out (List.Perm.refl _) O1.out O2).2, by have := HT2.out; simp only [List.append_assoc] at this ⊢; exact this⟩, hg⟩

end Go.Proofs.YtgdfecnpkjnhnaaGreatDoor
/- Rows cut in blocks that are each in order. No program in sight. Then symMerge for all lengths. -/
set_option linter.unusedSimpArgs false
set_option linter.unnecessarySimpa false
set_option linter.unusedVariables false
namespace Go.Proofs.YtgdfecnpkjnhnaaGreatDoor
open Go.RowKit

inductive Blk (k : Nat) : List Ton → Prop
  | last (S : List Ton) : Srt S → S.length ≤ k → Blk k S
  | cons (S R : List Ton) : Srt S → S.length = k → Blk k R → Blk k (S ++ R)
/-- Whole blocks alone. -/
def Full (k : Nat) (P : List Ton) : Prop := ∀ Q, Blk k Q → Blk k (P ++ Q)
theorem full_nil (k : Nat) : Full k [] := fun Q h => h
theorem Full.snoc {k : Nat} {P S : List Ton} (h : Full k P) (hs : Srt S) (hl : S.length = k) : Full k (P ++ S) := fun Q hQ => by
  rw [List.append_assoc]; exact h _ (.cons S Q hs hl hQ)
theorem Blk.nil (k : Nat) : Blk k [] := .last [] srt_nil (Nat.zero_le _)
theorem Blk.all {k : Nat} {d : List Ton} (h : Blk k d) (hl : d.length ≤ k) : Srt d := by
  cases h with
  | last _ h _ => exact h
  | cons S R h1 h2 h3 =>
    rw [List.length_append] at hl
    rw [List.eq_nil_of_length_eq_zero (l := R) (by omega), List.append_nil]; exact h1
theorem Blk.two {k : Nat} {d : List Ton} (hk : 0 < k) (h : Blk k d) (hl : 2 * k ≤ d.length) : ∃ L R Q, d = L ++ (R ++ Q) ∧ L.length = k ∧ R.length = k ∧ Srt L ∧ Srt R ∧ Blk k Q := by
  cases h with
  | last _ h g => omega
  | cons S R h1 h2 h3 =>
    rw [List.length_append] at hl
    cases h3 with
    | last _ h g => exact ⟨S, R, [], by simp, h2, by omega, h1, h, Blk.nil k⟩
    | cons S' R' g1 g2 g3 => exact ⟨S, S', R', rfl, h2, g2, h1, g1, g3⟩
theorem Blk.tail {k : Nat} {d : List Ton} (hk : 0 < k) (h : Blk k d) (hl : d.length < 2 * k) (hl2 : k < d.length) : ∃ L R, d = L ++ R ∧ L.length = k ∧ 0 < R.length ∧ Srt L ∧ Srt R := by
  cases h with
  | last _ h g => omega
  | cons S R h1 h2 h3 =>
    rw [List.length_append] at hl hl2
    exact ⟨S, R, rfl, h2, by omega, h1, h3.all (by omega)⟩

theorem symM_any (base g n cap : Nat) (hn : n ≤ 1000000) : ∀ N, SymIH base g n cap N := by
  intro N
  induction N with
  | zero => intro a m b A L R C w h ha hm hb hL hR hlt; omega
  | succ N ih =>
    intro a m b A L R C w h ha hm hb hL hR hlt sL sR
    by_cases l1 : L.length = 1
    · obtain ⟨x, rfl⟩ := List.length_eq_one_iff.1 l1
      exact symA_any base g n cap a m b A R C x w h hn ha (by simpa using hm) hb sR
    · by_cases r1 : R.length = 1
      · obtain ⟨x, rfl⟩ := List.length_eq_one_iff.1 r1
        exact symB_any base g n cap a m b A L C x w h hn ha hm (by simpa using hb) sL l1
      · exact symC_any base g n cap a m b A L R C w h hn ha hm hb (by omega) (by omega) sL sR (fun a' m' b' A' L' R' C' w' k1 k2 k3 k4 k5 k6 k7 k8 k9 => ih a' m' b' A' L' R' C' w' k1 k2 k3 k4 k5 k6 (by omega) k8 k9)

end Go.Proofs.YtgdfecnpkjnhnaaGreatDoor
/- Contracts of stableCmpFunc and SortStableFunc at tones. -/
set_option linter.unusedSimpArgs false
set_option linter.unnecessarySimpa false
set_option linter.unusedVariables false
set_option maxRecDepth 100000
namespace Go.Proofs.YtgdfecnpkjnhnaaGreatDoor
open Go.RowKit

set_option maxHeartbeats 4000000 in
theorem stable_any (base g n cap : Nat) (d : List Ton) (w : World) (h : TR w base g n cap d) (hn : n ≤ 1000000) :
    Calls Tryz.prog 75 #[.slice (some ⟨g, 0, none⟩) n cap, .int .i64 n, .func (.func 43) #[] #[]] w fun e w' => e = .returned (.tuple #[]) ∧ (∃ S', S'.Perm d ∧ Srt S' ∧ TR w' base g n cap S') ∧ w.grownBy w' (some g) := by
  have hln := h.len
  have HN := Lib.hid hln; clear hln
  go_enter Tryz.func75, Tryz.ntmps75
  go_wp2_with fail
  go_loopw [7, 8] (fun i j wr => ∃ (P Q : List Ton) (a : Nat), i = .int .i64 (a : Int) ∧ j = .int .i64 ((a : Int) + 20) ∧ P.length = a ∧ a + Q.length = n ∧ Full 20 P ∧ (P ++ Q).Perm d ∧ TR wr base g n cap (P ++ Q) ∧ w.grownBy wr (some g)) (fun i j _ => n + 20 - (intOf i).toNat)
  case atStart => exact ⟨[], d, 0, by go_num, by go_num, rfl, by rw [HN.out]; omega, full_nil _, List.Perm.refl _, h, World.grownBy.refl _ _⟩
  case round =>
    obtain ⟨P, Q, a, rfl, rfl, hP, hQ, hF, hp, hT, hg⟩ := hrel
    by_cases hlt : a + 20 ≤ n
    · have d0 : decide ((a : Int) + 20 ≤ (n : Int)) = true := by simp; omega
      have k1 : (Q.take 20).length = 20 := by rw [List.length_take]; omega
      have k2 : (Q.drop 20).length = Q.length - 20 := by rw [List.length_drop]
      have HP := Lib.hid hP; have HQ := Lib.hid hQ; have HF := Lib.hid hF; have HPm := Lib.hid hp; have HT := Lib.hid hT; have K1 := Lib.hid k1; have K2 := Lib.hid k2
      clear hP hQ hF hp hT k1 k2
      have EA := Lib.hid (show (a : Int) + 20 = ((a + 20 : Nat) : Int) by omega)
      go_wp2_with fail
      simp only [EA.out]
      refine (insS_any base g n cap a (a + 20) P (Q.take 20) (Q.drop 20) _ (by rw [List.take_append_drop]; exact HT.out) hn HP.out (by rw [HP.out, K1.out])).mono ?_
      rintro e w1 ⟨rfl, ⟨S', p1, s1, hT1⟩, hg1⟩
      have P1 := Lib.hid p1; have S1 := Lib.hid s1; have HT1 := Lib.hid hT1; have HG1 := Lib.hid hg1
      clear p1 s1 hT1 hg1
      go_wp2
      go_roundw
      case rel =>
        have e1 : S'.length = 20 := by rw [P1.out.length_eq, K1.out]
        refine ⟨P ++ S', Q.drop 20, a + 20, by go_num, by go_num, by rw [List.length_append, HP.out, e1], by have := K2.out; have := HQ.out; omega, HF.out.snoc S1.out e1, ?_, by have := HT1.out; rw [← List.append_assoc] at this; exact this, grown_trans hg HG1.out⟩
        refine List.Perm.trans ?_ HPm.out
        rw [List.append_assoc]
        refine List.Perm.append_left P ?_
        have := P1.out.append_right (Q.drop 20)
        rwa [List.take_append_drop] at this
      case measure => simp [intOf] <;> omega
    · have d0 : decide ((a : Int) + 20 ≤ (n : Int)) = false := by simp; omega
      have HP := Lib.hid hP; have HQ := Lib.hid hQ; have HF := Lib.hid hF; have HPm := Lib.hid hp; have HT := Lib.hid hT
      have hQ2 : Q.length ≤ 20 := by omega
      have HQ2 := Lib.hid hQ2
      clear hP hQ hF hp hT hQ2
      go_wp2_with fail
      refine (insS_any base g n cap a n P Q [] _ (by rw [List.append_nil]; exact HT.out) hn HP.out (by rw [HP.out]; exact HQ.out)).mono ?_
      rintro e w1 ⟨rfl, ⟨S', p1, s1, hT1⟩, hg1⟩
      have hB : Blk 20 (P ++ S') := HF.out _ (.last _ s1 (by rw [p1.length_eq]; exact HQ2.out))
      have hPm : (P ++ S').Perm d := (List.Perm.append_left P p1).trans HPm.out
      have hT2 : TR w1 base g n cap (P ++ S') := by rw [List.append_nil] at hT1; exact hT1
      have hG2 := grown_trans hg hg1
      have HB := Lib.hid hB; have HPm2 := Lib.hid hPm; have HT2 := Lib.hid hT2; have HG2 := Lib.hid hG2
      clear p1 s1 hT1 hg1 hB hPm hT2 hG2 hg
      obtain ⟨d1, hd1⟩ : ∃ d1, d1 = P ++ S' := ⟨_, rfl⟩
      rw [← hd1] at HB HPm2 HT2
      clear hd1
      go_wp2_with fail
      go_loopw [6] (fun bv wr => ∃ (bs : Nat) (d1 : List Ton), bv = .int .i64 (bs : Int) ∧ 0 < bs ∧ bs ≤ 2 * n + 20 ∧ Blk bs d1 ∧ d1.Perm d ∧ TR wr base g n cap d1 ∧ w.grownBy wr (some g)) (fun bv _ => n - (intOf bv).toNat)
      case atStart => exact ⟨20, d1, by go_num, by omega, by omega, HB.out, HPm2.out, HT2.out, HG2.out⟩
      case round =>
        clear HB HPm2 HT2 HG2 HP HQ HF HPm HT HQ2
        obtain ⟨bs, d2, rfl, hbs, hbs2, hB, hPm, hT, hg⟩ := hrel
        have HB := Lib.hid hB; have HPm := Lib.hid hPm; have HT := Lib.hid hT
        clear hB hPm hT
        by_cases hlb : bs < n
        · have d5 : decide ((bs : Int) < (n : Int)) = true := by simp; omega
          have hbz : ¬ (bs : Int) = 0 := by omega
          obtain ⟨wo, rfl⟩ : ∃ wo : World, wo = wr := ⟨_, rfl⟩
          have hgo : wo.grownBy wo (some g) := World.grownBy.refl _ _
          go_wp2_with fail
          go_loopw [7, 8] (fun i j wr => ∃ (P Q : List Ton) (a : Nat), i = .int .i64 (a : Int) ∧ j = .int .i64 ((a : Int) + 2 * (bs : Int)) ∧ P.length = a ∧ a + Q.length = n ∧ Full (2 * bs) P ∧ Blk bs Q ∧ (P ++ Q).Perm d ∧ TR wr base g n cap (P ++ Q) ∧ w.grownBy wr (some g)) (fun i j _ => n + 2 * bs - (intOf i).toNat)
          case atStart => exact ⟨[], d2, 0, by go_num, by go_num, rfl, by have := HT.out.len; omega, full_nil _, HB.out, HPm.out, HT.out, hg⟩
          case round =>
            obtain ⟨P, Q, a, rfl, rfl, hP, hQ, hF, hQB, hp, hT', hg'⟩ := hrel
            by_cases hlt2 : a + 2 * bs ≤ n
            · have d6 : decide ((a : Int) + 2 * (bs : Int) ≤ (n : Int)) = true := by simp; omega
              obtain ⟨L, R, Q2, rfl, lL, lR, sL, sR, bQ⟩ := hQB.two hbs (by omega)
              have EA := Lib.hid (show (a : Int) + (bs : Int) = ((a + bs : Nat) : Int) by omega)
              have EB := Lib.hid (show (a : Int) + 2 * (bs : Int) = ((a + 2 * bs : Nat) : Int) by omega)
              have HP := Lib.hid hP; have HQ := Lib.hid hQ; have HF := Lib.hid hF; have HPm' := Lib.hid hp; have HT' := Lib.hid hT'; have LL := Lib.hid lL; have LR := Lib.hid lR; have SL := Lib.hid sL; have SR := Lib.hid sR; have BQ := Lib.hid bQ
              clear hP hQ hF hp hT' lL lR sL sR bQ hQB
              go_wp2_with fail
              simp only [EA.out, EB.out]
              have cl := symM_any base g n cap hn _ a (a + bs) (a + 2 * bs) P L R Q2 _ HT'.out HP.out (by rw [LL.out]) (by rw [LR.out]; omega) (by rw [LL.out]; omega) (by rw [LR.out]; omega) (Nat.lt_succ_self _) SL.out SR.out
              unfold SymTo at cl
              refine cl.mono ?_
              rintro e w1 ⟨rfl, ⟨S', p1, s1, hT1⟩, hg1⟩
              have P1 := Lib.hid p1; have S1 := Lib.hid s1; have HT1 := Lib.hid hT1; have HG1 := Lib.hid hg1
              clear p1 s1 hT1 hg1 cl
              go_wp2
              go_roundw
              case rel =>
                have e1 : S'.length = 2 * bs := by rw [P1.out.length_eq, List.length_append, LL.out, LR.out]; omega
                refine ⟨P ++ S', Q2, a + 2 * bs, by go_num, by go_num, by rw [List.length_append, HP.out, e1], ?_, HF.out.snoc S1.out e1, BQ.out, ?_, by have := HT1.out; rw [← List.append_assoc] at this; exact this, grown_trans hg' HG1.out⟩
                · have := HQ.out; rw [List.length_append, List.length_append, LL.out, LR.out] at this; omega
                · refine List.Perm.trans ?_ HPm'.out
                  rw [List.append_assoc]
                  refine List.Perm.append_left P ?_
                  have := P1.out.append_right Q2
                  rwa [List.append_assoc] at this
              case measure => simp [intOf] <;> omega
            · have d6 : decide ((a : Int) + 2 * (bs : Int) ≤ (n : Int)) = false := by simp; omega
              have hQ2 : Q.length < 2 * bs := by omega
              by_cases hmn : a + bs < n
              · have d7 : decide ((a : Int) + (bs : Int) < (n : Int)) = true := by simp; omega
                obtain ⟨L, R, rfl, lL, lR, sL, sR⟩ := hQB.tail hbs hQ2 (by omega)
                have EA := Lib.hid (show (a : Int) + (bs : Int) = ((a + bs : Nat) : Int) by omega)
                have HP := Lib.hid hP; have HQ := Lib.hid hQ; have HF := Lib.hid hF; have HPm' := Lib.hid hp; have HT' := Lib.hid hT'; have LL := Lib.hid lL; have LR := Lib.hid lR; have SL := Lib.hid sL; have SR := Lib.hid sR; have HQ2 := Lib.hid hQ2
                clear hP hQ hF hp hT' lL lR sL sR hQB hQ2
                go_wp2_with fail
                simp only [EA.out]
                have cl := symM_any base g n cap hn _ a (a + bs) n P L R [] _ (by rw [List.append_nil]; exact HT'.out) HP.out (by rw [LL.out]) (by have := HQ.out; rw [List.length_append, LL.out] at this; omega) (by rw [LL.out]; omega) LR.out (Nat.lt_succ_self _) SL.out SR.out
                unfold SymTo at cl
                refine cl.mono ?_
                rintro e w1 ⟨rfl, ⟨S', p1, s1, hT1⟩, hg1⟩
                have P1 := Lib.hid p1; have S1 := Lib.hid s1; have HT1 := Lib.hid hT1; have HG1 := Lib.hid hg1
                clear p1 s1 hT1 hg1 cl
                go_wp2
                go_roundw
                case rel =>
                  exact ⟨2 * bs, P ++ S', by go_num, by omega, by omega, HF.out _ (.last _ S1.out (by rw [P1.out.length_eq]; have := HQ2.out; omega)), (List.Perm.append_left P P1.out).trans HPm'.out, by have := HT1.out; rw [List.append_nil] at this; exact this, grown_trans hg' HG1.out⟩
                case measure => simp [intOf] <;> omega
              · have d7 : decide ((a : Int) + (bs : Int) < (n : Int)) = false := by simp; omega
                have hS : Srt Q := hQB.all (by omega)
                have hB2 : Blk (2 * bs) (P ++ Q) := hF _ (.last _ hS (by omega))
                have HB2 := Lib.hid hB2; have HPm' := Lib.hid hp; have HT' := Lib.hid hT'
                have hAn : a ≤ n := by omega
                clear hS hB2 hp hT' hP hQ hF hQB hQ2
                go_wp2
                go_roundw
                case rel =>
                  exact ⟨2 * bs, P ++ Q, by go_num, by omega, by omega, HB2.out, HPm'.out, HT'.out, hg'⟩
                case measure => simp [intOf] <;> omega
        · have d5 : decide ((bs : Int) < (n : Int)) = false := by simp; omega
          go_wp2
          go_end0
          exact ⟨rfl, ⟨d2, HPm.out, HB.out.all (by have := HT.out.len; omega), HT.out⟩, hg⟩

end Go.Proofs.YtgdfecnpkjnhnaaGreatDoor
/- Contract of SortStableFunc at tones, on a row of the call's own. -/
set_option linter.unusedSimpArgs false
set_option linter.unnecessarySimpa false
set_option linter.unusedVariables false
set_option maxRecDepth 100000
namespace Go.Proofs.YtgdfecnpkjnhnaaGreatDoor
open Go.RowKit

set_option maxHeartbeats 400000 in
theorem insS_nil (w : World) :
    Calls Tryz.prog 106 #[.slice none 0 0, .int .i64 0, .int .i64 0, .func (.func 43) #[] #[]] w fun e w' => e = .returned (.tuple #[]) ∧ w' = w := by
  go_enter Tryz.func106, Tryz.ntmps106
  go_wp2_with fail
  go_loopw [8] (fun i wr => i = .int .i64 1 ∧ wr = w) (fun i _ => 0)
  case atStart => exact ⟨rfl, rfl⟩
  case round =>
    obtain ⟨rfl, rfl⟩ := hrel
    go_wp2
    go_end0
    exact ⟨rfl, rfl⟩

set_option maxHeartbeats 400000 in
theorem stable_nil (w : World) :
    Calls Tryz.prog 75 #[.slice none 0 0, .int .i64 0, .func (.func 43) #[] #[]] w fun e w' => e = .returned (.tuple #[]) ∧ w' = w := by
  go_enter Tryz.func75, Tryz.ntmps75
  go_wp2_with fail
  go_loopw [7, 8] (fun i j wr => i = .int .i64 0 ∧ j = .int .i64 20 ∧ wr = w) (fun i j _ => 0)
  case atStart => exact ⟨rfl, rfl, rfl⟩
  case round =>
    obtain ⟨rfl, rfl, rfl⟩ := hrel
    go_wp2_with fail
    refine (insS_nil _).mono ?_
    rintro e w1 ⟨rfl, rfl⟩
    go_wp2_with fail
    go_loopw [6] (fun i w2 => i = .int .i64 20 ∧ w2 = w1) (fun i _ => 0)
    case atStart => exact ⟨rfl, rfl⟩
    case round =>
      obtain ⟨rfl, rfl⟩ := hrel
      go_wp2
      go_end0
      exact ⟨rfl, rfl⟩

set_option maxHeartbeats 400000 in
theorem sortS_any (base E n : Nat) (v : Value) (d : List Ton) (w : World) (h : OwnRow base E w 50 3 v n (d.flatMap Ton.cells)) (hd : d.length = n) (hn : n ≤ 1000000) :
    Calls Tryz.prog 61 #[v, .func (.func 43) #[] #[]] w fun e w' => e = .returned (.tuple #[]) ∧ (∃ d', d'.Perm d ∧ Srt d' ∧ OwnRow base E w' 50 3 v n (d'.flatMap Ton.cells)) ∧ Touch base E w w' := by
  have h2 := h.2
  rcases h.1.2 with ⟨rfl, rfl⟩ | ⟨g, cap, cur, rfl, hbg, hgg, hrest⟩
  · have e0 : d = [] := List.eq_nil_of_length_eq_zero hd
    subst e0
    go_enter Tryz.func61, Tryz.ntmps61
    go_wp2_with fail
    refine (stable_nil _).mono ?_
    rintro e w1 ⟨rfl, rfl⟩
    go_wp2
    go_end0
    exact ⟨rfl, ⟨[], List.Perm.refl _, srt_nil, h⟩, Touch.refl _ _ _⟩
  · have HT : TR w base g n cap d := ⟨hd, h.1⟩
    have HG := Lib.hid (h2 g rfl); clear h2
    have HD := Lib.hid hd; clear hd
    go_enter Tryz.func61, Tryz.ntmps61
    go_wp2_with fail
    refine (stable_any base g n cap d _ HT hn).mono ?_
    rintro e w1 ⟨rfl, ⟨d', p1, s1, hT1⟩, hg1⟩
    have P1 := Lib.hid p1; have S1 := Lib.hid s1; have T1 := Lib.hid hT1; have G1 := Lib.hid hg1; clear p1 s1 hT1 hg1
    go_wp2
    go_end0
    exact ⟨rfl, ⟨d', P1.out, S1.out, T1.out.2, h.2⟩, Touch.of_grown G1.out (by intro g' hg'; cases hg'; exact ⟨hbg, HG.out⟩)⟩

end Go.Proofs.YtgdfecnpkjnhnaaGreatDoor
/- The contract of the program's ValidTune. -/
set_option linter.unusedSimpArgs false
set_option linter.unnecessarySimpa false
set_option linter.unusedVariables false
namespace Go.Proofs.YtgdfecnpkjnhnaaGreatDoor
open Go.RowKit

set_option maxHeartbeats 4000000 in
theorem implValidTun_any (v lv : Value) (x : TunD) (w : World) (h : Tun w v lv x) (hn : x.name.size ≤ maxLen) :
    Calls Tryz.prog 20 #[v] w fun e w' => e = .returned (.bool (validTunB x)) ∧ Below w.heap.size w w' := by
  obtain ⟨rfl, hlv⟩ := h
  obtain ⟨a, ca, rfl, hca, hcm, _⟩ := id hlv
  have hm : x.tones.length ≤ maxLen := by omega
  clear hca hcm
  unfold maxLen at hm
  go_enter Tryz.func20, Tryz.ntmps20
  go_wp2_with fail
  go_loopw [8, 3, 4] (fun i _ _ wr => ∃ k : Nat, k ≤ x.tones.length ∧ i = .int .i64 k ∧ (∀ i, i < k → TonAt x.tones i) ∧ wr.cell? ⟨w.heap.size, 0, none⟩ = some (.string x.name) ∧ wr.cell? ⟨w.heap.size, 1, none⟩ = some (.slice a x.tones.length ca) ∧ Below w.heap.size w wr) (fun i _ _ _ => x.tones.length - (intOf i).toNat)
  case atStart => exact ⟨0, Nat.zero_le _, rfl, by intro i h; omega, by simp [go_sem], by simp [go_sem], by (repeat (first | with_reducible exact Below.refl _ _ | with_reducible exact hbw | (with_reducible refine Below.setCell ?_ ?_ _; rotate_left; · first | exact Nat.le_refl _ | omega | (simp; done) | (simp; omega)) | (with_reducible refine Below.alloc ?_ ?_ _; rotate_left; · first | exact Nat.le_refl _ | omega | (simp; done) | (simp; omega)) | with_reducible refine below_drewN ?_ _ | with_reducible refine Below.drew ?_))⟩
  case round =>
    obtain ⟨k, hk, rfl, ht', u0, u1, hb⟩ := hrel
    have ht := Lib.hid ht'; clear ht'
    have hs := World.block_lt_of_cell? _ _ u0
    simp only at hs
    by_cases hlt : k < x.tones.length
    · obtain ⟨b1, o1, rfl, hB1, c0, c1, c2⟩ := (hlv.mono hb).at hlt
      by_cases g : TonOk x.tones[k]
      · by_cases h0 : 0 < k
        · have hk1 : k - 1 < x.tones.length := by omega
          obtain ⟨b2, o2, e2, hB2, e0, e1, e2'⟩ := (hlv.mono hb).at hk1
          simp only [Option.some.injEq, Addr.mk.injEq, and_true] at e2
          obtain ⟨rfl, rfl⟩ := e2
          have z1 : ((k : Int) - 1).toNat = k - 1 := by omega
          have d0 : decide (0 < (k : Int)) = true := by simpa using h0
          have w1' : IntKind.i64.wrap ((k : Int) - 1) = (k : Int) - 1 := IntWalk.i64_in _ (by omega)
          have w2' : (1 : Int) ≤ (k : Int) := by omega
          have w3' : (k : Int) - 1 < (x.tones.length : Int) := by omega
          have l1 : b1 < wr.heap.size + 1 := by omega
          have l2 : w.heap.size < wr.heap.size + 1 := by omega
          by_cases g2 : before x.tones[k - 1] x.tones[k]
          · have dc : decide (0 ≤ cmpT x.tones[k - 1] x.tones[k]) = false := by have := (cmpT_neg _ _).2 g2; simp; omega
            have G := Lib.hid g; have G2 := Lib.hid g2; clear g g2
            go_wp2_with fail
            refine wp_region_ord [(0, true), (1, false), (2, true), (3, true), (4, true), (5, true), (6, true), (7, true), (8, true), (9, true), (10, true), (11, true), (12, true), (13, true), (14, false), (15, true), (16, true), (17, true)] (none) (by kernel_rfl) (by kernel_rfl) ?_
            (repeat (with_reducible refine wpOrd_soft (fun K hK => ?_); simp only [List.getElem?_toArray, List.getElem?_cons_zero, List.getElem?_cons_succ]; first | (go_simp; refine hK _ ?_) | (simp only [undef]; go_simp; refine hK _ ?_); clear hK K))
            (with_reducible refine wpOrd_hard ?_; simp only [List.getElem?_toArray, List.getElem?_cons_zero, List.getElem?_cons_succ])
            go_wp2_with fail
            refine (validTone_any true x.tones[k] _ (yesB G.out)).mono ?_
            rintro e w1 ⟨rfl, hb1⟩
            have hb1 : Below (wr.heap.size + 1) (wr.alloc (Obj.cells #[.int .i64 x.tones[k].note, .int .i64 x.tones[k].start, .int .i64 x.tones[k].len] 50)) w1 := by simpa using undrew hb1
            have hbr : Below wr.heap.size wr w1 := Below.trans (by (repeat (first | with_reducible exact Below.refl _ _ | with_reducible exact hbw | (with_reducible refine Below.setCell ?_ ?_ _; rotate_left; · first | exact Nat.le_refl _ | omega | (simp; done) | (simp; omega)) | (with_reducible refine Below.alloc ?_ ?_ _; rotate_left; · first | exact Nat.le_refl _ | omega | (simp; done) | (simp; omega)) | with_reducible refine below_drewN ?_ _ | with_reducible refine Below.drew ?_))) (hb1.mono (by omega))
            go_wp2_with fail
            refine And.intro (grown_of_below (by simpa using hb1)) ?_
            (repeat (with_reducible refine wpOrd_soft (fun K hK => ?_); simp only [List.getElem?_toArray, List.getElem?_cons_zero, List.getElem?_cons_succ]; first | (go_simp; refine hK _ ?_) | (simp only [undef]; go_simp; refine hK _ ?_); clear hK K))
            (with_reducible refine wpOrd_hard ?_; simp only [List.getElem?_toArray, List.getElem?_cons_zero, List.getElem?_cons_succ])
            go_wp2_with fail
            refine (compareTones_any x.tones[k - 1] x.tones[k] _).mono ?_
            rintro e w2 ⟨rfl, hb2⟩
            have hb2' := hb1.trans (hb2.mono (by simpa using hb1.size))
            have hbr := hbr.trans (hb2.mono hbr.size)
            go_wp2_with fail
            refine And.intro (grown_of_below (by simpa using hb2')) ?_
            (repeat (with_reducible refine wpOrd_soft (fun K hK => ?_); simp only [List.getElem?_toArray, List.getElem?_cons_zero, List.getElem?_cons_succ]; first | (go_simp; refine hK _ ?_) | (simp only [undef]; go_simp; refine hK _ ?_); clear hK K))
            (with_reducible refine wpOrd_nil ?_); refine NoPanic.normal ?_
            clear w1'
            have y0 := cellB hbr u0
            have y1 := cellB hbr u1
            have hb := hb.trans (hbr.mono hb.size)
            clear hb1 hb2 hb2' hbr
            go_wp2
            go_roundw
            case rel => exact ⟨k + 1, by omega, by go_num, lt_step ht.out (fun _ => ⟨G.out, fun _ => G2.out⟩), y0, y1, hb⟩
            case measure => simp [intOf]; omega
          · have H := Lib.hid (show ¬ TunOk x from fun h => g2 ((h.tones k hlt hlt).2 h0))
            have dc : decide (0 ≤ cmpT x.tones[k - 1] x.tones[k]) = true := by have : ¬ cmpT x.tones[k - 1] x.tones[k] < 0 := fun h => g2 ((cmpT_neg _ _).1 h); simp; omega
            have G := Lib.hid g; clear g g2
            go_wp2_with fail
            refine wp_region_ord [(0, true), (1, false), (2, true), (3, true), (4, true), (5, true), (6, true), (7, true), (8, true), (9, true), (10, true), (11, true), (12, true), (13, true), (14, false), (15, true), (16, true), (17, true)] (none) (by kernel_rfl) (by kernel_rfl) ?_
            (repeat (with_reducible refine wpOrd_soft (fun K hK => ?_); simp only [List.getElem?_toArray, List.getElem?_cons_zero, List.getElem?_cons_succ]; first | (go_simp; refine hK _ ?_) | (simp only [undef]; go_simp; refine hK _ ?_); clear hK K))
            (with_reducible refine wpOrd_hard ?_; simp only [List.getElem?_toArray, List.getElem?_cons_zero, List.getElem?_cons_succ])
            go_wp2_with fail
            refine (validTone_any true x.tones[k] _ (yesB G.out)).mono ?_
            rintro e w1 ⟨rfl, hb1⟩
            have hb1 : Below (wr.heap.size + 1) (wr.alloc (Obj.cells #[.int .i64 x.tones[k].note, .int .i64 x.tones[k].start, .int .i64 x.tones[k].len] 50)) w1 := by simpa using undrew hb1
            have hbr : Below wr.heap.size wr w1 := Below.trans (by (repeat (first | with_reducible exact Below.refl _ _ | with_reducible exact hbw | (with_reducible refine Below.setCell ?_ ?_ _; rotate_left; · first | exact Nat.le_refl _ | omega | (simp; done) | (simp; omega)) | (with_reducible refine Below.alloc ?_ ?_ _; rotate_left; · first | exact Nat.le_refl _ | omega | (simp; done) | (simp; omega)) | with_reducible refine below_drewN ?_ _ | with_reducible refine Below.drew ?_))) (hb1.mono (by omega))
            go_wp2_with fail
            refine And.intro (grown_of_below (by simpa using hb1)) ?_
            (repeat (with_reducible refine wpOrd_soft (fun K hK => ?_); simp only [List.getElem?_toArray, List.getElem?_cons_zero, List.getElem?_cons_succ]; first | (go_simp; refine hK _ ?_) | (simp only [undef]; go_simp; refine hK _ ?_); clear hK K))
            (with_reducible refine wpOrd_hard ?_; simp only [List.getElem?_toArray, List.getElem?_cons_zero, List.getElem?_cons_succ])
            go_wp2_with fail
            refine (compareTones_any x.tones[k - 1] x.tones[k] _).mono ?_
            rintro e w2 ⟨rfl, hb2⟩
            have hb2' := hb1.trans (hb2.mono (by simpa using hb1.size))
            have hbr := hbr.trans (hb2.mono hbr.size)
            go_wp2_with fail
            refine And.intro (grown_of_below (by simpa using hb2')) ?_
            (repeat (with_reducible refine wpOrd_soft (fun K hK => ?_); simp only [List.getElem?_toArray, List.getElem?_cons_zero, List.getElem?_cons_succ]; first | (go_simp; refine hK _ ?_) | (simp only [undef]; go_simp; refine hK _ ?_); clear hK K))
            (with_reducible refine wpOrd_nil ?_); refine NoPanic.normal ?_
            clear w1'
            have hb := hb.trans (hbr.mono hb.size)
            clear hb1 hb2 hb2' hbr
            go_wp2
            go_ret
            exact ⟨ret_bool (finTun (by simpa using H.out)), hb⟩
        · have d0 : decide (0 < (k : Int)) = false := by simpa using h0
          have l1 : b1 < wr.heap.size + 1 := by omega
          have l2 : w.heap.size < wr.heap.size + 1 := by omega
          have G := Lib.hid g; clear g
          go_wp2_with fail
          refine wp_region_ord [(0, true), (1, false), (2, true), (3, true), (4, true), (5, true), (6, true), (7, true), (8, true), (9, true), (10, true), (11, true), (12, true), (13, true), (14, false), (15, true), (16, true), (17, true)] (none) (by kernel_rfl) (by kernel_rfl) ?_
          (repeat (with_reducible refine wpOrd_soft (fun K hK => ?_); simp only [List.getElem?_toArray, List.getElem?_cons_zero, List.getElem?_cons_succ]; first | (go_simp; refine hK _ ?_) | (simp only [undef]; go_simp; refine hK _ ?_); clear hK K))
          (with_reducible refine wpOrd_hard ?_; simp only [List.getElem?_toArray, List.getElem?_cons_zero, List.getElem?_cons_succ])
          go_wp2_with fail
          refine (validTone_any true x.tones[k] _ (yesB G.out)).mono ?_
          rintro e w1 ⟨rfl, hb1⟩
          have hb1 : Below (wr.heap.size + 1) (wr.alloc (Obj.cells #[.int .i64 x.tones[k].note, .int .i64 x.tones[k].start, .int .i64 x.tones[k].len] 50)) w1 := by simpa using undrew hb1
          have hbr : Below wr.heap.size wr w1 := Below.trans (by (repeat (first | with_reducible exact Below.refl _ _ | with_reducible exact hbw | (with_reducible refine Below.setCell ?_ ?_ _; rotate_left; · first | exact Nat.le_refl _ | omega | (simp; done) | (simp; omega)) | (with_reducible refine Below.alloc ?_ ?_ _; rotate_left; · first | exact Nat.le_refl _ | omega | (simp; done) | (simp; omega)) | with_reducible refine below_drewN ?_ _ | with_reducible refine Below.drew ?_))) (hb1.mono (by omega))
          go_wp2_with fail
          refine And.intro (grown_of_below (by simpa using hb1)) ?_
          (repeat (with_reducible refine wpOrd_soft (fun K hK => ?_); simp only [List.getElem?_toArray, List.getElem?_cons_zero, List.getElem?_cons_succ]; first | (go_simp; refine hK _ ?_) | (simp only [undef]; go_simp; refine hK _ ?_); clear hK K))
          (with_reducible refine wpOrd_skip ?_ (fun K hK => ?_); exact grown_of_below (by simpa using hb1); simp only [List.getElem?_toArray, List.getElem?_cons_zero, List.getElem?_cons_succ]; first | (go_simp; refine hK _ ?_) | (simp only [undef]; go_simp; refine hK _ ?_); clear hK K)
          (repeat (with_reducible refine wpOrd_soft (fun K hK => ?_); simp only [List.getElem?_toArray, List.getElem?_cons_zero, List.getElem?_cons_succ]; first | (go_simp; refine hK _ ?_) | (simp only [undef]; go_simp; refine hK _ ?_); clear hK K))
          (with_reducible refine wpOrd_nil ?_); refine NoPanic.normal ?_
          have y0 := cellB hbr u0
          have y1 := cellB hbr u1
          have hb := hb.trans (hbr.mono hb.size)
          clear hb1 hbr
          go_wp2
          go_roundw
          case rel => exact ⟨k + 1, by omega, by go_num, lt_step ht.out (fun _ => ⟨G.out, fun h => absurd h h0⟩), y0, y1, hb⟩
          case measure => simp [intOf]; omega
      · have H := Lib.hid (show ¬ TunOk x from fun h => g (h.tones k hlt hlt).1)
        have l1 : b1 < wr.heap.size + 1 := by omega
        have l2 : w.heap.size < wr.heap.size + 1 := by omega
        have G := Lib.hid g; clear g
        go_wp2_with fail
        refine wp_region_ord [(0, true), (1, false), (2, true), (3, true), (4, true), (5, true), (6, true), (7, true), (8, true), (9, true), (10, true), (11, true), (12, true), (13, true), (14, false), (15, true), (16, true), (17, true)] (none) (by kernel_rfl) (by kernel_rfl) ?_
        (repeat (with_reducible refine wpOrd_soft (fun K hK => ?_); simp only [List.getElem?_toArray, List.getElem?_cons_zero, List.getElem?_cons_succ]; first | (go_simp; refine hK _ ?_) | (simp only [undef]; go_simp; refine hK _ ?_); clear hK K))
        (with_reducible refine wpOrd_hard ?_; simp only [List.getElem?_toArray, List.getElem?_cons_zero, List.getElem?_cons_succ])
        go_wp2_with fail
        refine (validTone_any false x.tones[k] _ (noB G.out)).mono ?_
        rintro e w1 ⟨rfl, hb1⟩
        have hb1 : Below (wr.heap.size + 1) (wr.alloc (Obj.cells #[.int .i64 x.tones[k].note, .int .i64 x.tones[k].start, .int .i64 x.tones[k].len] 50)) w1 := by simpa using undrew hb1
        have hbr : Below wr.heap.size wr w1 := Below.trans (by (repeat (first | with_reducible exact Below.refl _ _ | with_reducible exact hbw | (with_reducible refine Below.setCell ?_ ?_ _; rotate_left; · first | exact Nat.le_refl _ | omega | (simp; done) | (simp; omega)) | (with_reducible refine Below.alloc ?_ ?_ _; rotate_left; · first | exact Nat.le_refl _ | omega | (simp; done) | (simp; omega)) | with_reducible refine below_drewN ?_ _ | with_reducible refine Below.drew ?_))) (hb1.mono (by omega))
        go_wp2_with fail
        refine And.intro (grown_of_below (by simpa using hb1)) ?_
        (repeat (with_reducible refine wpOrd_soft (fun K hK => ?_); simp only [List.getElem?_toArray, List.getElem?_cons_zero, List.getElem?_cons_succ]; first | (go_simp; refine hK _ ?_) | (simp only [undef]; go_simp; refine hK _ ?_); clear hK K))
        (with_reducible refine wpOrd_skip ?_ (fun K hK => ?_); exact grown_of_below (by simpa using hb1); simp only [List.getElem?_toArray, List.getElem?_cons_zero, List.getElem?_cons_succ]; first | (go_simp; refine hK _ ?_) | (simp only [undef]; go_simp; refine hK _ ?_); clear hK K)
        (repeat (with_reducible refine wpOrd_soft (fun K hK => ?_); simp only [List.getElem?_toArray, List.getElem?_cons_zero, List.getElem?_cons_succ]; first | (go_simp; refine hK _ ?_) | (simp only [undef]; go_simp; refine hK _ ?_); clear hK K))
        (with_reducible refine wpOrd_nil ?_); refine NoPanic.normal ?_
        have hb := hb.trans (hbr.mono hb.size)
        clear hb1 hbr
        go_wp2
        go_ret
        exact ⟨ret_bool (finTun (by simpa using H.out)), hb⟩
    · have T := Lib.hid (show TonesOk x.tones from fun i hi => ht.out i (by omega))
      by_cases g : NameOk x.name
      · have G := Lib.hid (yesB g)
        have H := Lib.hid (show decide ((x.tones.length : Int) ≤ 128) = validTunB x from finTun ⟨fun h => by have := h.len; simp; omega, fun h => ⟨g, by have := of_decide_eq_true h; omega, T.out⟩⟩)
        clear g
        go_wp2_with fail
        refine (isName_any x.name _ hn).mono ?_
        rw [← G.out]
        rintro e w1 ⟨rfl, hb1⟩
        have y0 := cellB hb1 u0
        have y1 := cellB hb1 u1
        go_wp2
        go_ret
        exact ⟨ret_bool H.out, hb.trans (hb1.mono hb.size)⟩
      · have G := Lib.hid (noB g)
        have H := Lib.hid (show ¬ TunOk x from fun h => g h.name)
        clear g
        go_wp2_with fail
        refine (isName_any x.name _ hn).mono ?_
        rw [← G.out]
        rintro e w1 ⟨rfl, hb1⟩
        go_wp2
        go_ret
        exact ⟨ret_bool (finTun (by simpa using H.out)), hb.trans (hb1.mono hb.size)⟩

theorem implValidTune_any (v : Value) (x : TunD) (w : World) (h : RdTun w v x) (ok : x.ok) (_ : x.tones.length ≤ 1048576) :
    Calls Tryz.prog 20 #[v] w fun e w' => e = .returned (.bool (validTunB x)) ∧ Below w.heap.size w w' := by
  obtain ⟨lv, h⟩ := h
  exact implValidTun_any v lv x w h ok.1

/-- The size of a tune, as the laws count it. -/
def szTun (x : TunD) : Nat := x.name.size + x.tones.length
end Go.Proofs.YtgdfecnpkjnhnaaGreatDoor
