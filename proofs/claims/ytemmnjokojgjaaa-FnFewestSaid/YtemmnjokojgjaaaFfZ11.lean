import Derived.Test.YtemmnjokojgjaaaFfZ10
import Derived.Test.YtemmnjokojgjaaaFfZ3
import Derived.Test.YtemmnjokojgjaaaFfZ7
import Derived.Test.YtemmnjokojgjaaaFfZ9
/- Contract of symMergeCmpFunc at tones. -/
set_option linter.unusedSimpArgs false
set_option linter.unnecessarySimpa false
set_option linter.unusedVariables false
set_option maxRecDepth 100000
namespace Go.Proofs.Ytemmnjokojgjaaa
open Go.RowKit

def SymTo (base g n cap a m b : Nat) (A L R C : List Ton) (w : World) : Prop :=
  Calls Try.prog 119 #[.slice (some ⟨g, 0, none⟩) n cap, .int .i64 a, .int .i64 m, .int .i64 b, .func (.func 102) #[] #[]] w fun e w' => e = .returned (.tuple #[]) ∧ (∃ S', S'.Perm (L ++ R) ∧ Srt S' ∧ TR w' base g n cap (A ++ (S' ++ C))) ∧ w.grownBy w' (some g)

def SymIH (base g n cap N : Nat) : Prop := ∀ (a m b : Nat) (A L R C : List Ton) (w : World), TR w base g n cap (A ++ (L ++ (R ++ C))) → A.length = a → a + L.length = m → m + R.length = b → 0 < L.length → 0 < R.length → L.length + R.length < N → Srt L → Srt R → SymTo base g n cap a m b A L R C w

set_option maxHeartbeats 8000000 in
theorem symC_any (base g n cap a m b : Nat) (A L R C : List Ton) (w : World) (h : TR w base g n cap (A ++ (L ++ (R ++ C)))) (hn : n ≤ 1000000) (ha : A.length = a) (hm : a + L.length = m) (hb : m + R.length = b) (hL1 : 1 < L.length) (hR1 : 1 < R.length) (hL : Srt L) (hR : Srt R)
    (ih : SymIH base g n cap (L.length + R.length)) : SymTo base g n cap a m b A L R C w := by
  unfold SymTo
  have IH := Lib.hid ih; clear ih
  have hln := h.len
  simp only [List.length_append] at hln
  have hcn : n ≤ cap := by rcases h.2.2 with ⟨e, _⟩ | ⟨g', cap', cur, e, _, _, h1, _⟩ <;> cases e; exact h1
  have hgb := h.lt.1
  have q1 : b ≤ n := by omega
  have q2 : a < m := by omega
  have q3 : m < b := by omega
  obtain ⟨mid, hmid⟩ : ∃ mid : Nat, mid = (a + b) / 2 := ⟨_, rfl⟩
  have q4 : a < mid := by omega
  have q5 : mid < b := by omega
  obtain ⟨M, hM⟩ : ∃ M : Nat, M = mid - a := ⟨_, rfl⟩
  have EM := Lib.hid (show ((a : Int) + (b : Int)) / 2 = (mid : Int) by omega)
  have q6 : m ≤ mid → M ≤ R.length ∧ L.length ≤ M := by omega
  have q7 : ¬ m ≤ mid → R.length ≤ M ∧ M < L.length := by omega
  have q8 : m ≤ mid ∨ b ≤ mid + m := by omega
  have HA := Lib.hid ha; have HB := Lib.hid hb; have HL := Lib.hid hL; have HR := Lib.hid hR; have E0 := Lib.hid hm; have HM := Lib.hid hM; have Q6 := Lib.hid q6; have Q7 := Lib.hid q7
  have dm : decide ((m : Int) - (a : Int) = 1) = false := by simp; omega
  have dm2 : (((m : Int) - (a : Int)) == 1) = false := by simp; omega
  have db : decide ((b : Int) - (m : Int) = 1) = false := by simp; omega
  have db2 : (((b : Int) - (m : Int)) == 1) = false := by simp; omega
  obtain ⟨n0, hn0⟩ : ∃ n0 : Nat, n0 = mid + m := ⟨_, rfl⟩
  obtain ⟨p0, hp0⟩ : ∃ p0 : Nat, p0 + 1 = n0 := ⟨n0 - 1, by omega⟩
  have EN := Lib.hid (show (mid : Int) + (m : Int) = (n0 : Int) by omega)
  have EP := Lib.hid (show (n0 : Int) - 1 = (p0 : Int) by omega)
  have HN := Lib.hid hn0; have HP := Lib.hid hp0
  clear hln ha hb hL hR hm hM hmid hL1 hR1 q6 q7 hn0 hp0
  by_cases hmm : m ≤ mid
  · have dmm : decide (((a : Int) + (b : Int)) / 2 < (m : Int)) = false := by rw [EM.out]; simp; omega
    go_enter Try.func119, Try.ntmps119
    go_wp2_with fail
    simp only [EM.out, EN.out, EP.out]
    go_loopw [20, 21] (fun i j wr => ∃ (lo hi : Nat), i = .int .i64 (lo : Int) ∧ j = .int .i64 (hi : Int) ∧ lo ≤ hi ∧ a ≤ lo ∧ hi ≤ mid ∧ hi ≤ m ∧ M - R.length ≤ lo - a ∧ loOk L R M (lo - a) ∧ hiOk L R M (hi - a) ∧ TR wr base g n cap (A ++ (L ++ (R ++ C))) ∧ w.grownBy wr (some g)) (fun i j _ => (intOf j - intOf i).toNat)
    case atStart => exact ⟨a, m, rfl, rfl, by omega, Nat.le_refl _, hmm, Nat.le_refl _, by have := Q6.out hmm; omega, Or.inl (by have := Q6.out hmm; omega), Or.inr (Or.inl (by have := E0.out; omega)), h, World.grownBy.refl _ _⟩
    case round =>
      obtain ⟨lo, hi, rfl, rfl, hlh, hal, hhm, hhm2, hlm, h1, h2, hT, hg⟩ := hrel
      have hE0 := E0.out
      have hB0 := HB.out
      have hM0 := HM.out
      have hn0 := HN.out
      have hp0 := HP.out
      by_cases hlt : lo < hi
      · obtain ⟨q, hq⟩ : ∃ q : Nat, q = (lo + hi) / 2 := ⟨_, rfl⟩
        obtain ⟨hq1, hq2⟩ := mid_bd hlt
        rw [← hq] at hq1 hq2
        have EQ := Lib.hid (show ((lo : Int) + (hi : Int)) / 2 = (q : Int) by omega)
        clear hq
        have hql : q - a < L.length := by omega
        obtain ⟨ix, hix⟩ : ∃ ix : Nat, ix = p0 - q := ⟨_, rfl⟩
        have hqr : M - 1 - (q - a) < R.length := by omega
        have hT1 := hT
        rw [formL A L (R ++ C) (q - a) hql] at hT1
        obtain ⟨c0, c1, c2⟩ := hT1.atM (k := q) (by rw [List.length_append, List.length_take, HA.out]; omega)
        have hT2 := hT
        rw [← List.append_assoc, formL (A ++ L) R C (M - 1 - (q - a)) hqr] at hT2
        obtain ⟨d0, d1, d2⟩ := hT2.atM (k := ix) (by rw [List.length_append, List.length_append, List.length_take, HA.out]; omega)
        have hlt' := hT.lt.2
        have w1' : IntKind.i64.wrap ((p0 : Int) - (q : Int)) = (ix : Int) := (IntWalk.i64_in _ (by omega)).trans (by omega)
        have b2 : (ix : Int) < (n : Int) := by omega
        have b3 : (q : Int) < (n : Int) := by omega
        obtain ⟨y, hy⟩ : ∃ y, y = R[M - 1 - (q - a)] := ⟨_, rfl⟩
        obtain ⟨x, hx⟩ : ∃ x, x = L[q - a] := ⟨_, rfl⟩
        rw [← hy] at d0 d1 d2
        rw [← hx] at c0 c1 c2
        have HX := Lib.hid hx; have HY := Lib.hid hy; have HT := Lib.hid hT; have H1 := Lib.hid h1; have H2 := Lib.hid h2; have HIX := Lib.hid hix; have HM0 := Lib.hid hM0; have HE0 := Lib.hid hE0; have HB0 := Lib.hid hB0; have HLM := Lib.hid hlm
        clear hn0 hp0 hT1 hT2 hT h1 h2 hx hy hix hM0 hE0 hB0 hlm
        by_cases hbx : before y x
        · have hc : decide (cmpT y x < 0) = true := by simpa using (cmpT_neg y x).2 hbx
          have hc2 : decide (0 ≤ cmpT y x) = false := by have := (cmpT_neg y x).2 hbx; simp; omega
          have HBf := Lib.hid hbx; clear hbx
          go_wp2_with fail
          simp only [EQ.out]
          refine wp_region_ordG [(0, 1), (1, 1), (2, 1), (3, 1), (4, 1), (5, 1), (6, 2), (7, 1), (8, 1), (9, 1), (10, 2), (11, 0), (12, 1), (13, 1)] [11] (none) (by kernel_rfl) (by kernel_rfl) ?_
          (repeat ((first | with_reducible refine wpOrdG_soft (fun K hK => ?_) | with_reducible refine wpOrdG_pre (fun K hK => ?_)); simp only [List.getElem?_toArray, List.getElem?_cons_zero, List.getElem?_cons_succ]; first | (go_simp; refine hK _ ?_) | (simp only [undef]; go_simp; refine hK _ ?_); clear hK K))
          (with_reducible refine wpOrdG_hard ?_; simp only [List.getElem?_toArray, List.getElem?_cons_zero, List.getElem?_cons_succ])
          go_wp2_with fail
          refine (compareTones_any y x _).mono ?_
          rintro e w1 ⟨rfl, hb1⟩
          go_wp2_with fail
          refine ⟨grown_of_below hb1, ?_⟩
          (repeat ((first | with_reducible refine wpOrdG_soft (fun K hK => ?_) | with_reducible refine wpOrdG_pre (fun K hK => ?_)); simp only [List.getElem?_toArray, List.getElem?_cons_zero, List.getElem?_cons_succ]; first | (go_simp; refine hK _ ?_) | (simp only [undef]; go_simp; refine hK _ ?_); clear hK K))
          (with_reducible refine wpOrdG_nil ?_); refine NoPanic.normal ?_
          have hb2 := undrew hb1
          clear w1'
          go_wp2
          go_roundw
          case rel =>
            have hm0 := HM0.out; have he0 := HE0.out
            refine ⟨lo, q, rfl, rfl, hq1, hal, by omega, by omega, HLM.out, H1.out, Or.inr (Or.inr ⟨hql, hqr, by omega, ?_⟩), HT.out.mono hb2, grown_trans hg (grown_row' hb2)⟩
            have h5 := HBf.out; rw [HX.out, HY.out] at h5; exact h5
          case measure => simp [intOf] <;> omega
        · have hc : decide (cmpT y x < 0) = false := by have : ¬ cmpT y x < 0 := fun h => hbx ((cmpT_neg y x).1 h); simp; omega
          have hc2 : decide (0 ≤ cmpT y x) = true := by have : ¬ cmpT y x < 0 := fun h => hbx ((cmpT_neg y x).1 h); simp; omega
          have HBf := Lib.hid hbx; clear hbx
          go_wp2_with fail
          simp only [EQ.out]
          refine wp_region_ordG [(0, 1), (1, 1), (2, 1), (3, 1), (4, 1), (5, 1), (6, 2), (7, 1), (8, 1), (9, 1), (10, 2), (11, 0), (12, 1), (13, 1)] [11] (none) (by kernel_rfl) (by kernel_rfl) ?_
          (repeat ((first | with_reducible refine wpOrdG_soft (fun K hK => ?_) | with_reducible refine wpOrdG_pre (fun K hK => ?_)); simp only [List.getElem?_toArray, List.getElem?_cons_zero, List.getElem?_cons_succ]; first | (go_simp; refine hK _ ?_) | (simp only [undef]; go_simp; refine hK _ ?_); clear hK K))
          (with_reducible refine wpOrdG_hard ?_; simp only [List.getElem?_toArray, List.getElem?_cons_zero, List.getElem?_cons_succ])
          go_wp2_with fail
          refine (compareTones_any y x _).mono ?_
          rintro e w1 ⟨rfl, hb1⟩
          go_wp2_with fail
          refine ⟨grown_of_below hb1, ?_⟩
          (repeat ((first | with_reducible refine wpOrdG_soft (fun K hK => ?_) | with_reducible refine wpOrdG_pre (fun K hK => ?_)); simp only [List.getElem?_toArray, List.getElem?_cons_zero, List.getElem?_cons_succ]; first | (go_simp; refine hK _ ?_) | (simp only [undef]; go_simp; refine hK _ ?_); clear hK K))
          (with_reducible refine wpOrdG_nil ?_); refine NoPanic.normal ?_
          have hb2 := undrew hb1
          clear w1'
          go_wp2
          go_roundw
          case rel =>
            have hm0 := HM0.out; have he0 := HE0.out
            refine ⟨q + 1, hi, by go_num, rfl, hq2, by omega, hhm, hhm2, by have := HLM.out; omega, Or.inr ?_, H2.out, HT.out.mono hb2, grown_trans hg (grown_row' hb2)⟩
            have e1 : q + 1 - a - 1 = q - a := by omega
            have e2 : M - (q + 1 - a) = M - 1 - (q - a) := by omega
            simp only [e1, e2]
            refine ⟨hql, hqr, by omega, ?_⟩
            have h5 := HBf.out; rw [HX.out, HY.out] at h5; exact h5
          case measure => simp [intOf] <;> omega
      · obtain rfl : lo = hi := by omega
        obtain ⟨L1, L2, R1, R2, l1, l2, l3, l4, s1, s2, s3, s4, he, hfin⟩ := sym_parts (A := A) (C := C) HL.out HR.out h1 h2 (by omega) (by omega) (by omega)
        rw [he] at hT
        obtain ⟨en, hen⟩ : ∃ en : Nat, en = mid + m - lo := ⟨_, rfl⟩
        have EE := Lib.hid (show (n0 : Int) - (lo : Int) = (en : Int) by omega)
        have hsum : L1.length + R1.length < L.length + R.length ∧ L2.length + R2.length < L.length + R.length := by omega
        have z1 : A.length + L1.length = lo := by rw [HA.out]; omega
        have z2 : lo + L2.length = m := by omega
        have z3 : m + R1.length = en := by omega
        have z4 : en + R2.length = b := by omega
        have z5 : lo + R1.length = mid := by omega
        have z6 : mid + L2.length = en := by omega
        have i1 : mid ≤ en := by omega
        have i2 : lo ≤ m := by omega
        have i3 : m ≤ en := by omega
        have i4 : lo ≤ mid := by omega
        have i5 : en ≤ b := by omega
        have i6 : lo ≤ n0 := by omega
        have i7 : n0 ≤ 3000000 := by omega
        have S1 := Lib.hid s1; have S2 := Lib.hid s2; have S3 := Lib.hid s3; have S4 := Lib.hid s4; have FN := Lib.hid hfin; have HS := Lib.hid hsum
        have Z1 := Lib.hid z1; have Z2 := Lib.hid z2; have Z3 := Lib.hid z3; have Z4 := Lib.hid z4; have Z5 := Lib.hid z5; have Z6 := Lib.hid z6
        have hT0 := Lib.hid hT
        clear l1 l2 l3 l4 s1 s2 s3 s4 he hfin hsum z1 z2 z3 z4 z5 z6 hT h1 h2 hE0 hB0 hM0 hen hn0 hp0
        have d9 : decide ((lo : Int) < (lo : Int)) = false := by simp
        by_cases r1 : lo < m
        · have f1 : decide ((lo : Int) < (m : Int)) = true := by simp; omega
          by_cases r2 : m < en
          · have f2 : decide ((m : Int) < (n0 : Int) - (lo : Int)) = true := by rw [EE.out]; simp; omega
            go_wp2_with fail
            simp only [EE.out]
            refine (rotate_any base g n cap lo m en (.func (.func 102) #[] #[]) (A ++ L1) L2 R1 (R2 ++ C) _ hT0.out hn (by rw [List.length_append]; exact Z1.out) (by rw [List.length_append, Z1.out]; exact Z2.out) (by rw [List.length_append, Z1.out]; have := Z2.out; have := Z3.out; omega) (by have := Z2.out; omega) (by have := Z3.out; omega)).mono ?_
            rintro e w1 ⟨rfl, hT1, hg1⟩
            have HT1 := Lib.hid hT1
            have hg := grown_trans hg hg1
            clear hT1 hg1
            by_cases r3 : a < lo
            · have f3 : decide ((a : Int) < (lo : Int)) = true := by simp; omega
              by_cases r4 : lo < mid
              · have f4 : decide ((lo : Int) < (mid : Int)) = true := by simp; omega
                go_wp2_with fail
                have cl := IH.out a lo mid A L1 R1 (L2 ++ (R2 ++ C)) _ (by have := HT1.out; rw [List.append_assoc] at this; exact this) HA.out (by have := Z1.out; rw [HA.out] at this; exact this) Z5.out (by have := Z1.out; have := HA.out; omega) (by have := Z5.out; omega) HS.out.1 S1.out S3.out
                unfold SymTo at cl
                refine cl.mono ?_
                rintro e w2 ⟨rfl, ⟨X1, p1, o1, hT2⟩, hg2⟩
                have HT2 := Lib.hid hT2; have P1 := Lib.hid p1; have O1 := Lib.hid o1
                have hg := grown_trans hg hg2
                clear hT2 hg2 p1 o1 cl
                by_cases r5 : mid < en
                · have f5 : decide ((mid : Int) < (en : Int)) = true := by simp; omega
                  have f5' : decide ((mid : Int) < (n0 : Int) - (lo : Int)) = true := by rw [EE.out]; simp; omega
                  by_cases r6 : en < b
                  · have f6 : decide ((en : Int) < (b : Int)) = true := by simp; omega
                    have f6' : decide ((n0 : Int) - (lo : Int) < (b : Int)) = true := by rw [EE.out]; simp; omega
                    go_wp2_with fail
                    try simp only [EE.out]
                    have cl := IH.out mid en b (A ++ X1) L2 R2 C _ (by have := HT2.out; rw [← List.append_assoc] at this; exact this) (by rw [List.length_append, P1.out.length_eq, List.length_append]; have := Z1.out; have := Z5.out; omega) Z6.out Z4.out (by have := Z6.out; omega) (by have := Z4.out; omega) HS.out.2 S2.out S4.out
                    unfold SymTo at cl
                    refine cl.mono ?_
                    rintro e w3 ⟨rfl, ⟨X2, p2, o2, hT3⟩, hg3⟩
                    have HT3 := Lib.hid hT3; have P2 := Lib.hid p2; have O2 := Lib.hid o2
                    have hg := grown_trans hg hg3
                    clear hT3 hg3 p2 o2 cl
                    go_wp2
                    go_end0
                    exact ⟨rfl, ⟨X1 ++ X2, (FN.out X1 X2 P1.out P2.out O1.out O2.out).1, (FN.out X1 X2 P1.out P2.out O1.out O2.out).2, by have := HT3.out; simp only [List.append_assoc] at this ⊢; exact this⟩, hg⟩
                  · have f6 : decide ((en : Int) < (b : Int)) = false := by simp; omega
                    have f6' : decide ((n0 : Int) - (lo : Int) < (b : Int)) = false := by rw [EE.out]; simp; omega
                    go_wp2
                    go_end0
                    have O2 : Srt (L2 ++ R2) := srt_two S2.out S4.out (Or.inr (by have := Z4.out; omega))
                    exact ⟨rfl, ⟨X1 ++ (L2 ++ R2), (FN.out X1 _ P1.out (List.Perm.refl _) O1.out O2).1, (FN.out X1 _ P1.out (List.Perm.refl _) O1.out O2).2, by have := HT2.out; simp only [List.append_assoc] at this ⊢; exact this⟩, hg⟩
                · have f5 : decide ((mid : Int) < (en : Int)) = false := by simp; omega
                  have f5' : decide ((mid : Int) < (n0 : Int) - (lo : Int)) = false := by rw [EE.out]; simp; omega
                  go_wp2
                  go_end0
                  have O2 : Srt (L2 ++ R2) := srt_two S2.out S4.out (Or.inl (by have := Z6.out; omega))
                  exact ⟨rfl, ⟨X1 ++ (L2 ++ R2), (FN.out X1 _ P1.out (List.Perm.refl _) O1.out O2).1, (FN.out X1 _ P1.out (List.Perm.refl _) O1.out O2).2, by have := HT2.out; simp only [List.append_assoc] at this ⊢; exact this⟩, hg⟩
              · have f4 : decide ((lo : Int) < (mid : Int)) = false := by simp; omega
                have HT2 := Lib.hid (show TR w1 base g n cap (A ++ ((L1 ++ R1) ++ (L2 ++ (R2 ++ C)))) by have := HT1.out; simp only [List.append_assoc] at this ⊢; exact this)
                obtain ⟨X1, hX1⟩ : ∃ X1, X1 = L1 ++ R1 := ⟨_, rfl⟩
                rw [← hX1] at HT2
                have P1 := Lib.hid (show X1.Perm (L1 ++ R1) by rw [hX1])
                have O1 := Lib.hid (show Srt X1 by rw [hX1]; exact srt_two S1.out S3.out (Or.inr (by have := Z5.out; omega)))
                clear hX1
                by_cases r5 : mid < en
                · have f5 : decide ((mid : Int) < (en : Int)) = true := by simp; omega
                  have f5' : decide ((mid : Int) < (n0 : Int) - (lo : Int)) = true := by rw [EE.out]; simp; omega
                  by_cases r6 : en < b
                  · have f6 : decide ((en : Int) < (b : Int)) = true := by simp; omega
                    have f6' : decide ((n0 : Int) - (lo : Int) < (b : Int)) = true := by rw [EE.out]; simp; omega
                    go_wp2_with fail
                    try simp only [EE.out]
                    have cl := IH.out mid en b (A ++ X1) L2 R2 C _ (by have := HT2.out; rw [← List.append_assoc] at this; exact this) (by rw [List.length_append, P1.out.length_eq, List.length_append]; have := Z1.out; have := Z5.out; omega) Z6.out Z4.out (by have := Z6.out; omega) (by have := Z4.out; omega) HS.out.2 S2.out S4.out
                    unfold SymTo at cl
                    refine cl.mono ?_
                    rintro e w3 ⟨rfl, ⟨X2, p2, o2, hT3⟩, hg3⟩
                    have HT3 := Lib.hid hT3; have P2 := Lib.hid p2; have O2 := Lib.hid o2
                    have hg := grown_trans hg hg3
                    clear hT3 hg3 p2 o2 cl
                    go_wp2
                    go_end0
                    exact ⟨rfl, ⟨X1 ++ X2, (FN.out X1 X2 P1.out P2.out O1.out O2.out).1, (FN.out X1 X2 P1.out P2.out O1.out O2.out).2, by have := HT3.out; simp only [List.append_assoc] at this ⊢; exact this⟩, hg⟩
                  · have f6 : decide ((en : Int) < (b : Int)) = false := by simp; omega
                    have f6' : decide ((n0 : Int) - (lo : Int) < (b : Int)) = false := by rw [EE.out]; simp; omega
                    go_wp2
                    go_end0
                    have O2 : Srt (L2 ++ R2) := srt_two S2.out S4.out (Or.inr (by have := Z4.out; omega))
                    exact ⟨rfl, ⟨X1 ++ (L2 ++ R2), (FN.out X1 _ P1.out (List.Perm.refl _) O1.out O2).1, (FN.out X1 _ P1.out (List.Perm.refl _) O1.out O2).2, by have := HT2.out; simp only [List.append_assoc] at this ⊢; exact this⟩, hg⟩
                · have f5 : decide ((mid : Int) < (en : Int)) = false := by simp; omega
                  have f5' : decide ((mid : Int) < (n0 : Int) - (lo : Int)) = false := by rw [EE.out]; simp; omega
                  go_wp2
                  go_end0
                  have O2 : Srt (L2 ++ R2) := srt_two S2.out S4.out (Or.inl (by have := Z6.out; omega))
                  exact ⟨rfl, ⟨X1 ++ (L2 ++ R2), (FN.out X1 _ P1.out (List.Perm.refl _) O1.out O2).1, (FN.out X1 _ P1.out (List.Perm.refl _) O1.out O2).2, by have := HT2.out; simp only [List.append_assoc] at this ⊢; exact this⟩, hg⟩
            · have f3 : decide ((a : Int) < (lo : Int)) = false := by simp; omega
              have HT2 := Lib.hid (show TR w1 base g n cap (A ++ ((L1 ++ R1) ++ (L2 ++ (R2 ++ C)))) by have := HT1.out; simp only [List.append_assoc] at this ⊢; exact this)
              obtain ⟨X1, hX1⟩ : ∃ X1, X1 = L1 ++ R1 := ⟨_, rfl⟩
              rw [← hX1] at HT2
              have P1 := Lib.hid (show X1.Perm (L1 ++ R1) by rw [hX1])
              have O1 := Lib.hid (show Srt X1 by rw [hX1]; exact srt_two S1.out S3.out (Or.inl (by have := Z1.out; have := HA.out; omega)))
              clear hX1
              by_cases r5 : mid < en
              · have f5 : decide ((mid : Int) < (en : Int)) = true := by simp; omega
                have f5' : decide ((mid : Int) < (n0 : Int) - (lo : Int)) = true := by rw [EE.out]; simp; omega
                by_cases r6 : en < b
                · have f6 : decide ((en : Int) < (b : Int)) = true := by simp; omega
                  have f6' : decide ((n0 : Int) - (lo : Int) < (b : Int)) = true := by rw [EE.out]; simp; omega
                  go_wp2_with fail
                  try simp only [EE.out]
                  have cl := IH.out mid en b (A ++ X1) L2 R2 C _ (by have := HT2.out; rw [← List.append_assoc] at this; exact this) (by rw [List.length_append, P1.out.length_eq, List.length_append]; have := Z1.out; have := Z5.out; omega) Z6.out Z4.out (by have := Z6.out; omega) (by have := Z4.out; omega) HS.out.2 S2.out S4.out
                  unfold SymTo at cl
                  refine cl.mono ?_
                  rintro e w3 ⟨rfl, ⟨X2, p2, o2, hT3⟩, hg3⟩
                  have HT3 := Lib.hid hT3; have P2 := Lib.hid p2; have O2 := Lib.hid o2
                  have hg := grown_trans hg hg3
                  clear hT3 hg3 p2 o2 cl
                  go_wp2
                  go_end0
                  exact ⟨rfl, ⟨X1 ++ X2, (FN.out X1 X2 P1.out P2.out O1.out O2.out).1, (FN.out X1 X2 P1.out P2.out O1.out O2.out).2, by have := HT3.out; simp only [List.append_assoc] at this ⊢; exact this⟩, hg⟩
                · have f6 : decide ((en : Int) < (b : Int)) = false := by simp; omega
                  have f6' : decide ((n0 : Int) - (lo : Int) < (b : Int)) = false := by rw [EE.out]; simp; omega
                  go_wp2
                  go_end0
                  have O2 : Srt (L2 ++ R2) := srt_two S2.out S4.out (Or.inr (by have := Z4.out; omega))
                  exact ⟨rfl, ⟨X1 ++ (L2 ++ R2), (FN.out X1 _ P1.out (List.Perm.refl _) O1.out O2).1, (FN.out X1 _ P1.out (List.Perm.refl _) O1.out O2).2, by have := HT2.out; simp only [List.append_assoc] at this ⊢; exact this⟩, hg⟩
              · have f5 : decide ((mid : Int) < (en : Int)) = false := by simp; omega
                have f5' : decide ((mid : Int) < (n0 : Int) - (lo : Int)) = false := by rw [EE.out]; simp; omega
                go_wp2
                go_end0
                have O2 : Srt (L2 ++ R2) := srt_two S2.out S4.out (Or.inl (by have := Z6.out; omega))
                exact ⟨rfl, ⟨X1 ++ (L2 ++ R2), (FN.out X1 _ P1.out (List.Perm.refl _) O1.out O2).1, (FN.out X1 _ P1.out (List.Perm.refl _) O1.out O2).2, by have := HT2.out; simp only [List.append_assoc] at this ⊢; exact this⟩, hg⟩
          · have f2 : decide ((m : Int) < (n0 : Int) - (lo : Int)) = false := by rw [EE.out]; simp; omega
            have HT1 := Lib.hid (show TR wr base g n cap ((A ++ L1) ++ (R1 ++ (L2 ++ (R2 ++ C)))) by rw [← sym_swap0 A L2 R1 L1 (R2 ++ C) (Or.inr (by have := Z3.out; omega))]; exact hT0.out)
            by_cases r3 : a < lo
            · have f3 : decide ((a : Int) < (lo : Int)) = true := by simp; omega
              by_cases r4 : lo < mid
              · have f4 : decide ((lo : Int) < (mid : Int)) = true := by simp; omega
                go_wp2_with fail
                have cl := IH.out a lo mid A L1 R1 (L2 ++ (R2 ++ C)) _ (by have := HT1.out; rw [List.append_assoc] at this; exact this) HA.out (by have := Z1.out; rw [HA.out] at this; exact this) Z5.out (by have := Z1.out; have := HA.out; omega) (by have := Z5.out; omega) HS.out.1 S1.out S3.out
                unfold SymTo at cl
                refine cl.mono ?_
                rintro e w2 ⟨rfl, ⟨X1, p1, o1, hT2⟩, hg2⟩
                have HT2 := Lib.hid hT2; have P1 := Lib.hid p1; have O1 := Lib.hid o1
                have hg := grown_trans hg hg2
                clear hT2 hg2 p1 o1 cl
                by_cases r5 : mid < en
                · have f5 : decide ((mid : Int) < (en : Int)) = true := by simp; omega
                  have f5' : decide ((mid : Int) < (n0 : Int) - (lo : Int)) = true := by rw [EE.out]; simp; omega
                  by_cases r6 : en < b
                  · have f6 : decide ((en : Int) < (b : Int)) = true := by simp; omega
                    have f6' : decide ((n0 : Int) - (lo : Int) < (b : Int)) = true := by rw [EE.out]; simp; omega
                    go_wp2_with fail
                    try simp only [EE.out]
                    have cl := IH.out mid en b (A ++ X1) L2 R2 C _ (by have := HT2.out; rw [← List.append_assoc] at this; exact this) (by rw [List.length_append, P1.out.length_eq, List.length_append]; have := Z1.out; have := Z5.out; omega) Z6.out Z4.out (by have := Z6.out; omega) (by have := Z4.out; omega) HS.out.2 S2.out S4.out
                    unfold SymTo at cl
                    refine cl.mono ?_
                    rintro e w3 ⟨rfl, ⟨X2, p2, o2, hT3⟩, hg3⟩
                    have HT3 := Lib.hid hT3; have P2 := Lib.hid p2; have O2 := Lib.hid o2
                    have hg := grown_trans hg hg3
                    clear hT3 hg3 p2 o2 cl
                    go_wp2
                    go_end0
                    exact ⟨rfl, ⟨X1 ++ X2, (FN.out X1 X2 P1.out P2.out O1.out O2.out).1, (FN.out X1 X2 P1.out P2.out O1.out O2.out).2, by have := HT3.out; simp only [List.append_assoc] at this ⊢; exact this⟩, hg⟩
                  · have f6 : decide ((en : Int) < (b : Int)) = false := by simp; omega
                    have f6' : decide ((n0 : Int) - (lo : Int) < (b : Int)) = false := by rw [EE.out]; simp; omega
                    go_wp2
                    go_end0
                    have O2 : Srt (L2 ++ R2) := srt_two S2.out S4.out (Or.inr (by have := Z4.out; omega))
                    exact ⟨rfl, ⟨X1 ++ (L2 ++ R2), (FN.out X1 _ P1.out (List.Perm.refl _) O1.out O2).1, (FN.out X1 _ P1.out (List.Perm.refl _) O1.out O2).2, by have := HT2.out; simp only [List.append_assoc] at this ⊢; exact this⟩, hg⟩
                · have f5 : decide ((mid : Int) < (en : Int)) = false := by simp; omega
                  have f5' : decide ((mid : Int) < (n0 : Int) - (lo : Int)) = false := by rw [EE.out]; simp; omega
                  go_wp2
                  go_end0
                  have O2 : Srt (L2 ++ R2) := srt_two S2.out S4.out (Or.inl (by have := Z6.out; omega))
                  exact ⟨rfl, ⟨X1 ++ (L2 ++ R2), (FN.out X1 _ P1.out (List.Perm.refl _) O1.out O2).1, (FN.out X1 _ P1.out (List.Perm.refl _) O1.out O2).2, by have := HT2.out; simp only [List.append_assoc] at this ⊢; exact this⟩, hg⟩
              · have f4 : decide ((lo : Int) < (mid : Int)) = false := by simp; omega
                have HT2 := Lib.hid (show TR wr base g n cap (A ++ ((L1 ++ R1) ++ (L2 ++ (R2 ++ C)))) by have := HT1.out; simp only [List.append_assoc] at this ⊢; exact this)
                obtain ⟨X1, hX1⟩ : ∃ X1, X1 = L1 ++ R1 := ⟨_, rfl⟩
                rw [← hX1] at HT2
                have P1 := Lib.hid (show X1.Perm (L1 ++ R1) by rw [hX1])
                have O1 := Lib.hid (show Srt X1 by rw [hX1]; exact srt_two S1.out S3.out (Or.inr (by have := Z5.out; omega)))
                clear hX1
                by_cases r5 : mid < en
                · have f5 : decide ((mid : Int) < (en : Int)) = true := by simp; omega
                  have f5' : decide ((mid : Int) < (n0 : Int) - (lo : Int)) = true := by rw [EE.out]; simp; omega
                  by_cases r6 : en < b
                  · have f6 : decide ((en : Int) < (b : Int)) = true := by simp; omega
                    have f6' : decide ((n0 : Int) - (lo : Int) < (b : Int)) = true := by rw [EE.out]; simp; omega
                    go_wp2_with fail
                    try simp only [EE.out]
                    have cl := IH.out mid en b (A ++ X1) L2 R2 C _ (by have := HT2.out; rw [← List.append_assoc] at this; exact this) (by rw [List.length_append, P1.out.length_eq, List.length_append]; have := Z1.out; have := Z5.out; omega) Z6.out Z4.out (by have := Z6.out; omega) (by have := Z4.out; omega) HS.out.2 S2.out S4.out
                    unfold SymTo at cl
                    refine cl.mono ?_
                    rintro e w3 ⟨rfl, ⟨X2, p2, o2, hT3⟩, hg3⟩
                    have HT3 := Lib.hid hT3; have P2 := Lib.hid p2; have O2 := Lib.hid o2
                    have hg := grown_trans hg hg3
                    clear hT3 hg3 p2 o2 cl
                    go_wp2
                    go_end0
                    exact ⟨rfl, ⟨X1 ++ X2, (FN.out X1 X2 P1.out P2.out O1.out O2.out).1, (FN.out X1 X2 P1.out P2.out O1.out O2.out).2, by have := HT3.out; simp only [List.append_assoc] at this ⊢; exact this⟩, hg⟩
                  · have f6 : decide ((en : Int) < (b : Int)) = false := by simp; omega
                    have f6' : decide ((n0 : Int) - (lo : Int) < (b : Int)) = false := by rw [EE.out]; simp; omega
                    go_wp2
                    go_end0
                    have O2 : Srt (L2 ++ R2) := srt_two S2.out S4.out (Or.inr (by have := Z4.out; omega))
                    exact ⟨rfl, ⟨X1 ++ (L2 ++ R2), (FN.out X1 _ P1.out (List.Perm.refl _) O1.out O2).1, (FN.out X1 _ P1.out (List.Perm.refl _) O1.out O2).2, by have := HT2.out; simp only [List.append_assoc] at this ⊢; exact this⟩, hg⟩
                · have f5 : decide ((mid : Int) < (en : Int)) = false := by simp; omega
                  have f5' : decide ((mid : Int) < (n0 : Int) - (lo : Int)) = false := by rw [EE.out]; simp; omega
                  go_wp2
                  go_end0
                  have O2 : Srt (L2 ++ R2) := srt_two S2.out S4.out (Or.inl (by have := Z6.out; omega))
                  exact ⟨rfl, ⟨X1 ++ (L2 ++ R2), (FN.out X1 _ P1.out (List.Perm.refl _) O1.out O2).1, (FN.out X1 _ P1.out (List.Perm.refl _) O1.out O2).2, by have := HT2.out; simp only [List.append_assoc] at this ⊢; exact this⟩, hg⟩
            · have f3 : decide ((a : Int) < (lo : Int)) = false := by simp; omega
              have HT2 := Lib.hid (show TR wr base g n cap (A ++ ((L1 ++ R1) ++ (L2 ++ (R2 ++ C)))) by have := HT1.out; simp only [List.append_assoc] at this ⊢; exact this)
              obtain ⟨X1, hX1⟩ : ∃ X1, X1 = L1 ++ R1 := ⟨_, rfl⟩
              rw [← hX1] at HT2
              have P1 := Lib.hid (show X1.Perm (L1 ++ R1) by rw [hX1])
              have O1 := Lib.hid (show Srt X1 by rw [hX1]; exact srt_two S1.out S3.out (Or.inl (by have := Z1.out; have := HA.out; omega)))
              clear hX1
              by_cases r5 : mid < en
              · have f5 : decide ((mid : Int) < (en : Int)) = true := by simp; omega
                have f5' : decide ((mid : Int) < (n0 : Int) - (lo : Int)) = true := by rw [EE.out]; simp; omega
                by_cases r6 : en < b
                · have f6 : decide ((en : Int) < (b : Int)) = true := by simp; omega
                  have f6' : decide ((n0 : Int) - (lo : Int) < (b : Int)) = true := by rw [EE.out]; simp; omega
                  go_wp2_with fail
                  try simp only [EE.out]
                  have cl := IH.out mid en b (A ++ X1) L2 R2 C _ (by have := HT2.out; rw [← List.append_assoc] at this; exact this) (by rw [List.length_append, P1.out.length_eq, List.length_append]; have := Z1.out; have := Z5.out; omega) Z6.out Z4.out (by have := Z6.out; omega) (by have := Z4.out; omega) HS.out.2 S2.out S4.out
                  unfold SymTo at cl
                  refine cl.mono ?_
                  rintro e w3 ⟨rfl, ⟨X2, p2, o2, hT3⟩, hg3⟩
                  have HT3 := Lib.hid hT3; have P2 := Lib.hid p2; have O2 := Lib.hid o2
                  have hg := grown_trans hg hg3
                  clear hT3 hg3 p2 o2 cl
                  go_wp2
                  go_end0
                  exact ⟨rfl, ⟨X1 ++ X2, (FN.out X1 X2 P1.out P2.out O1.out O2.out).1, (FN.out X1 X2 P1.out P2.out O1.out O2.out).2, by have := HT3.out; simp only [List.append_assoc] at this ⊢; exact this⟩, hg⟩
                · have f6 : decide ((en : Int) < (b : Int)) = false := by simp; omega
                  have f6' : decide ((n0 : Int) - (lo : Int) < (b : Int)) = false := by rw [EE.out]; simp; omega
                  go_wp2
                  go_end0
                  have O2 : Srt (L2 ++ R2) := srt_two S2.out S4.out (Or.inr (by have := Z4.out; omega))
                  exact ⟨rfl, ⟨X1 ++ (L2 ++ R2), (FN.out X1 _ P1.out (List.Perm.refl _) O1.out O2).1, (FN.out X1 _ P1.out (List.Perm.refl _) O1.out O2).2, by have := HT2.out; simp only [List.append_assoc] at this ⊢; exact this⟩, hg⟩
              · have f5 : decide ((mid : Int) < (en : Int)) = false := by simp; omega
                have f5' : decide ((mid : Int) < (n0 : Int) - (lo : Int)) = false := by rw [EE.out]; simp; omega
                go_wp2
                go_end0
                have O2 : Srt (L2 ++ R2) := srt_two S2.out S4.out (Or.inl (by have := Z6.out; omega))
                exact ⟨rfl, ⟨X1 ++ (L2 ++ R2), (FN.out X1 _ P1.out (List.Perm.refl _) O1.out O2).1, (FN.out X1 _ P1.out (List.Perm.refl _) O1.out O2).2, by have := HT2.out; simp only [List.append_assoc] at this ⊢; exact this⟩, hg⟩
        · have f1 : decide ((lo : Int) < (m : Int)) = false := by simp; omega
          have HT1 := Lib.hid (show TR wr base g n cap ((A ++ L1) ++ (R1 ++ (L2 ++ (R2 ++ C)))) by rw [← sym_swap0 A L2 R1 L1 (R2 ++ C) (Or.inl (by have := Z2.out; omega))]; exact hT0.out)
          by_cases r3 : a < lo
          · have f3 : decide ((a : Int) < (lo : Int)) = true := by simp; omega
            by_cases r4 : lo < mid
            · have f4 : decide ((lo : Int) < (mid : Int)) = true := by simp; omega
              go_wp2_with fail
              have cl := IH.out a lo mid A L1 R1 (L2 ++ (R2 ++ C)) _ (by have := HT1.out; rw [List.append_assoc] at this; exact this) HA.out (by have := Z1.out; rw [HA.out] at this; exact this) Z5.out (by have := Z1.out; have := HA.out; omega) (by have := Z5.out; omega) HS.out.1 S1.out S3.out
              unfold SymTo at cl
              refine cl.mono ?_
              rintro e w2 ⟨rfl, ⟨X1, p1, o1, hT2⟩, hg2⟩
              have HT2 := Lib.hid hT2; have P1 := Lib.hid p1; have O1 := Lib.hid o1
              have hg := grown_trans hg hg2
              clear hT2 hg2 p1 o1 cl
              by_cases r5 : mid < en
              · have f5 : decide ((mid : Int) < (en : Int)) = true := by simp; omega
                have f5' : decide ((mid : Int) < (n0 : Int) - (lo : Int)) = true := by rw [EE.out]; simp; omega
                by_cases r6 : en < b
                · have f6 : decide ((en : Int) < (b : Int)) = true := by simp; omega
                  have f6' : decide ((n0 : Int) - (lo : Int) < (b : Int)) = true := by rw [EE.out]; simp; omega
                  go_wp2_with fail
                  try simp only [EE.out]
                  have cl := IH.out mid en b (A ++ X1) L2 R2 C _ (by have := HT2.out; rw [← List.append_assoc] at this; exact this) (by rw [List.length_append, P1.out.length_eq, List.length_append]; have := Z1.out; have := Z5.out; omega) Z6.out Z4.out (by have := Z6.out; omega) (by have := Z4.out; omega) HS.out.2 S2.out S4.out
                  unfold SymTo at cl
                  refine cl.mono ?_
                  rintro e w3 ⟨rfl, ⟨X2, p2, o2, hT3⟩, hg3⟩
                  have HT3 := Lib.hid hT3; have P2 := Lib.hid p2; have O2 := Lib.hid o2
                  have hg := grown_trans hg hg3
                  clear hT3 hg3 p2 o2 cl
                  go_wp2
                  go_end0
                  exact ⟨rfl, ⟨X1 ++ X2, (FN.out X1 X2 P1.out P2.out O1.out O2.out).1, (FN.out X1 X2 P1.out P2.out O1.out O2.out).2, by have := HT3.out; simp only [List.append_assoc] at this ⊢; exact this⟩, hg⟩
                · have f6 : decide ((en : Int) < (b : Int)) = false := by simp; omega
                  have f6' : decide ((n0 : Int) - (lo : Int) < (b : Int)) = false := by rw [EE.out]; simp; omega
                  go_wp2
                  go_end0
                  have O2 : Srt (L2 ++ R2) := srt_two S2.out S4.out (Or.inr (by have := Z4.out; omega))
                  exact ⟨rfl, ⟨X1 ++ (L2 ++ R2), (FN.out X1 _ P1.out (List.Perm.refl _) O1.out O2).1, (FN.out X1 _ P1.out (List.Perm.refl _) O1.out O2).2, by have := HT2.out; simp only [List.append_assoc] at this ⊢; exact this⟩, hg⟩
              · have f5 : decide ((mid : Int) < (en : Int)) = false := by simp; omega
                have f5' : decide ((mid : Int) < (n0 : Int) - (lo : Int)) = false := by rw [EE.out]; simp; omega
                go_wp2
                go_end0
                have O2 : Srt (L2 ++ R2) := srt_two S2.out S4.out (Or.inl (by have := Z6.out; omega))
                exact ⟨rfl, ⟨X1 ++ (L2 ++ R2), (FN.out X1 _ P1.out (List.Perm.refl _) O1.out O2).1, (FN.out X1 _ P1.out (List.Perm.refl _) O1.out O2).2, by have := HT2.out; simp only [List.append_assoc] at this ⊢; exact this⟩, hg⟩
            · have f4 : decide ((lo : Int) < (mid : Int)) = false := by simp; omega
              have HT2 := Lib.hid (show TR wr base g n cap (A ++ ((L1 ++ R1) ++ (L2 ++ (R2 ++ C)))) by have := HT1.out; simp only [List.append_assoc] at this ⊢; exact this)
              obtain ⟨X1, hX1⟩ : ∃ X1, X1 = L1 ++ R1 := ⟨_, rfl⟩
              rw [← hX1] at HT2
              have P1 := Lib.hid (show X1.Perm (L1 ++ R1) by rw [hX1])
              have O1 := Lib.hid (show Srt X1 by rw [hX1]; exact srt_two S1.out S3.out (Or.inr (by have := Z5.out; omega)))
              clear hX1
              by_cases r5 : mid < en
              · have f5 : decide ((mid : Int) < (en : Int)) = true := by simp; omega
                have f5' : decide ((mid : Int) < (n0 : Int) - (lo : Int)) = true := by rw [EE.out]; simp; omega
                by_cases r6 : en < b
                · have f6 : decide ((en : Int) < (b : Int)) = true := by simp; omega
                  have f6' : decide ((n0 : Int) - (lo : Int) < (b : Int)) = true := by rw [EE.out]; simp; omega
                  go_wp2_with fail
                  try simp only [EE.out]
                  have cl := IH.out mid en b (A ++ X1) L2 R2 C _ (by have := HT2.out; rw [← List.append_assoc] at this; exact this) (by rw [List.length_append, P1.out.length_eq, List.length_append]; have := Z1.out; have := Z5.out; omega) Z6.out Z4.out (by have := Z6.out; omega) (by have := Z4.out; omega) HS.out.2 S2.out S4.out
                  unfold SymTo at cl
                  refine cl.mono ?_
                  rintro e w3 ⟨rfl, ⟨X2, p2, o2, hT3⟩, hg3⟩
                  have HT3 := Lib.hid hT3; have P2 := Lib.hid p2; have O2 := Lib.hid o2
                  have hg := grown_trans hg hg3
                  clear hT3 hg3 p2 o2 cl
                  go_wp2
                  go_end0
                  exact ⟨rfl, ⟨X1 ++ X2, (FN.out X1 X2 P1.out P2.out O1.out O2.out).1, (FN.out X1 X2 P1.out P2.out O1.out O2.out).2, by have := HT3.out; simp only [List.append_assoc] at this ⊢; exact this⟩, hg⟩
                · have f6 : decide ((en : Int) < (b : Int)) = false := by simp; omega
                  have f6' : decide ((n0 : Int) - (lo : Int) < (b : Int)) = false := by rw [EE.out]; simp; omega
                  go_wp2
                  go_end0
                  have O2 : Srt (L2 ++ R2) := srt_two S2.out S4.out (Or.inr (by have := Z4.out; omega))
                  exact ⟨rfl, ⟨X1 ++ (L2 ++ R2), (FN.out X1 _ P1.out (List.Perm.refl _) O1.out O2).1, (FN.out X1 _ P1.out (List.Perm.refl _) O1.out O2).2, by have := HT2.out; simp only [List.append_assoc] at this ⊢; exact this⟩, hg⟩
              · have f5 : decide ((mid : Int) < (en : Int)) = false := by simp; omega
                have f5' : decide ((mid : Int) < (n0 : Int) - (lo : Int)) = false := by rw [EE.out]; simp; omega
                go_wp2
                go_end0
                have O2 : Srt (L2 ++ R2) := srt_two S2.out S4.out (Or.inl (by have := Z6.out; omega))
                exact ⟨rfl, ⟨X1 ++ (L2 ++ R2), (FN.out X1 _ P1.out (List.Perm.refl _) O1.out O2).1, (FN.out X1 _ P1.out (List.Perm.refl _) O1.out O2).2, by have := HT2.out; simp only [List.append_assoc] at this ⊢; exact this⟩, hg⟩
          · have f3 : decide ((a : Int) < (lo : Int)) = false := by simp; omega
            have HT2 := Lib.hid (show TR wr base g n cap (A ++ ((L1 ++ R1) ++ (L2 ++ (R2 ++ C)))) by have := HT1.out; simp only [List.append_assoc] at this ⊢; exact this)
            obtain ⟨X1, hX1⟩ : ∃ X1, X1 = L1 ++ R1 := ⟨_, rfl⟩
            rw [← hX1] at HT2
            have P1 := Lib.hid (show X1.Perm (L1 ++ R1) by rw [hX1])
            have O1 := Lib.hid (show Srt X1 by rw [hX1]; exact srt_two S1.out S3.out (Or.inl (by have := Z1.out; have := HA.out; omega)))
            clear hX1
            by_cases r5 : mid < en
            · have f5 : decide ((mid : Int) < (en : Int)) = true := by simp; omega
              have f5' : decide ((mid : Int) < (n0 : Int) - (lo : Int)) = true := by rw [EE.out]; simp; omega
              by_cases r6 : en < b
              · have f6 : decide ((en : Int) < (b : Int)) = true := by simp; omega
                have f6' : decide ((n0 : Int) - (lo : Int) < (b : Int)) = true := by rw [EE.out]; simp; omega
                go_wp2_with fail
                try simp only [EE.out]
                have cl := IH.out mid en b (A ++ X1) L2 R2 C _ (by have := HT2.out; rw [← List.append_assoc] at this; exact this) (by rw [List.length_append, P1.out.length_eq, List.length_append]; have := Z1.out; have := Z5.out; omega) Z6.out Z4.out (by have := Z6.out; omega) (by have := Z4.out; omega) HS.out.2 S2.out S4.out
                unfold SymTo at cl
                refine cl.mono ?_
                rintro e w3 ⟨rfl, ⟨X2, p2, o2, hT3⟩, hg3⟩
                have HT3 := Lib.hid hT3; have P2 := Lib.hid p2; have O2 := Lib.hid o2
                have hg := grown_trans hg hg3
                clear hT3 hg3 p2 o2 cl
                go_wp2
                go_end0
                exact ⟨rfl, ⟨X1 ++ X2, (FN.out X1 X2 P1.out P2.out O1.out O2.out).1, (FN.out X1 X2 P1.out P2.out O1.out O2.out).2, by have := HT3.out; simp only [List.append_assoc] at this ⊢; exact this⟩, hg⟩
              · have f6 : decide ((en : Int) < (b : Int)) = false := by simp; omega
                have f6' : decide ((n0 : Int) - (lo : Int) < (b : Int)) = false := by rw [EE.out]; simp; omega
                go_wp2
                go_end0
                have O2 : Srt (L2 ++ R2) := srt_two S2.out S4.out (Or.inr (by have := Z4.out; omega))
                exact ⟨rfl, ⟨X1 ++ (L2 ++ R2), (FN.out X1 _ P1.out (List.Perm.refl _) O1.out O2).1, (FN.out X1 _ P1.out (List.Perm.refl _) O1.out O2).2, by have := HT2.out; simp only [List.append_assoc] at this ⊢; exact this⟩, hg⟩
            · have f5 : decide ((mid : Int) < (en : Int)) = false := by simp; omega
              have f5' : decide ((mid : Int) < (n0 : Int) - (lo : Int)) = false := by rw [EE.out]; simp; omega
              go_wp2
              go_end0
              have O2 : Srt (L2 ++ R2) := srt_two S2.out S4.out (Or.inl (by have := Z6.out; omega))
              exact ⟨rfl, ⟨X1 ++ (L2 ++ R2), (FN.out X1 _ P1.out (List.Perm.refl _) O1.out O2).1, (FN.out X1 _ P1.out (List.Perm.refl _) O1.out O2).2, by have := HT2.out; simp only [List.append_assoc] at this ⊢; exact this⟩, hg⟩
  · have dmm : decide (((a : Int) + (b : Int)) / 2 < (m : Int)) = true := by rw [EM.out]; simp; omega
    go_enter Try.func119, Try.ntmps119
    go_wp2_with fail
    simp only [EM.out, EN.out, EP.out]
    go_loopw [20, 21] (fun i j wr => ∃ (lo hi : Nat), i = .int .i64 (lo : Int) ∧ j = .int .i64 (hi : Int) ∧ lo ≤ hi ∧ a ≤ lo ∧ hi ≤ mid ∧ hi ≤ m ∧ M - R.length ≤ lo - a ∧ loOk L R M (lo - a) ∧ hiOk L R M (hi - a) ∧ TR wr base g n cap (A ++ (L ++ (R ++ C))) ∧ w.grownBy wr (some g)) (fun i j _ => (intOf j - intOf i).toNat)
    case atStart => exact ⟨mid + m - b, mid, by have := HN.out; congr 1; omega, rfl, by omega, by have := Q7.out hmm; have := HB.out; have := HM.out; have := E0.out; omega, Nat.le_refl _, by omega, by have := Q7.out hmm; have := HB.out; have := HM.out; have := E0.out; omega, Or.inl (by have := Q7.out hmm; have := HB.out; have := HM.out; have := E0.out; omega), Or.inl (by have := HM.out; omega), h, World.grownBy.refl _ _⟩
    case round =>
      obtain ⟨lo, hi, rfl, rfl, hlh, hal, hhm, hhm2, hlm, h1, h2, hT, hg⟩ := hrel
      have hE0 := E0.out
      have hB0 := HB.out
      have hM0 := HM.out
      have hn0 := HN.out
      have hp0 := HP.out
      by_cases hlt : lo < hi
      · obtain ⟨q, hq⟩ : ∃ q : Nat, q = (lo + hi) / 2 := ⟨_, rfl⟩
        obtain ⟨hq1, hq2⟩ := mid_bd hlt
        rw [← hq] at hq1 hq2
        have EQ := Lib.hid (show ((lo : Int) + (hi : Int)) / 2 = (q : Int) by omega)
        clear hq
        have hql : q - a < L.length := by omega
        obtain ⟨ix, hix⟩ : ∃ ix : Nat, ix = p0 - q := ⟨_, rfl⟩
        have hqr : M - 1 - (q - a) < R.length := by omega
        have hT1 := hT
        rw [formL A L (R ++ C) (q - a) hql] at hT1
        obtain ⟨c0, c1, c2⟩ := hT1.atM (k := q) (by rw [List.length_append, List.length_take, HA.out]; omega)
        have hT2 := hT
        rw [← List.append_assoc, formL (A ++ L) R C (M - 1 - (q - a)) hqr] at hT2
        obtain ⟨d0, d1, d2⟩ := hT2.atM (k := ix) (by rw [List.length_append, List.length_append, List.length_take, HA.out]; omega)
        have hlt' := hT.lt.2
        have w1' : IntKind.i64.wrap ((p0 : Int) - (q : Int)) = (ix : Int) := (IntWalk.i64_in _ (by omega)).trans (by omega)
        have b2 : (ix : Int) < (n : Int) := by omega
        have b3 : (q : Int) < (n : Int) := by omega
        obtain ⟨y, hy⟩ : ∃ y, y = R[M - 1 - (q - a)] := ⟨_, rfl⟩
        obtain ⟨x, hx⟩ : ∃ x, x = L[q - a] := ⟨_, rfl⟩
        rw [← hy] at d0 d1 d2
        rw [← hx] at c0 c1 c2
        have HX := Lib.hid hx; have HY := Lib.hid hy; have HT := Lib.hid hT; have H1 := Lib.hid h1; have H2 := Lib.hid h2; have HIX := Lib.hid hix; have HM0 := Lib.hid hM0; have HE0 := Lib.hid hE0; have HB0 := Lib.hid hB0; have HLM := Lib.hid hlm
        clear hn0 hp0 hT1 hT2 hT h1 h2 hx hy hix hM0 hE0 hB0 hlm
        by_cases hbx : before y x
        · have hc : decide (cmpT y x < 0) = true := by simpa using (cmpT_neg y x).2 hbx
          have hc2 : decide (0 ≤ cmpT y x) = false := by have := (cmpT_neg y x).2 hbx; simp; omega
          have HBf := Lib.hid hbx; clear hbx
          go_wp2_with fail
          simp only [EQ.out]
          refine wp_region_ordG [(0, 1), (1, 1), (2, 1), (3, 1), (4, 1), (5, 1), (6, 2), (7, 1), (8, 1), (9, 1), (10, 2), (11, 0), (12, 1), (13, 1)] [11] (none) (by kernel_rfl) (by kernel_rfl) ?_
          (repeat ((first | with_reducible refine wpOrdG_soft (fun K hK => ?_) | with_reducible refine wpOrdG_pre (fun K hK => ?_)); simp only [List.getElem?_toArray, List.getElem?_cons_zero, List.getElem?_cons_succ]; first | (go_simp; refine hK _ ?_) | (simp only [undef]; go_simp; refine hK _ ?_); clear hK K))
          (with_reducible refine wpOrdG_hard ?_; simp only [List.getElem?_toArray, List.getElem?_cons_zero, List.getElem?_cons_succ])
          go_wp2_with fail
          refine (compareTones_any y x _).mono ?_
          rintro e w1 ⟨rfl, hb1⟩
          go_wp2_with fail
          refine ⟨grown_of_below hb1, ?_⟩
          (repeat ((first | with_reducible refine wpOrdG_soft (fun K hK => ?_) | with_reducible refine wpOrdG_pre (fun K hK => ?_)); simp only [List.getElem?_toArray, List.getElem?_cons_zero, List.getElem?_cons_succ]; first | (go_simp; refine hK _ ?_) | (simp only [undef]; go_simp; refine hK _ ?_); clear hK K))
          (with_reducible refine wpOrdG_nil ?_); refine NoPanic.normal ?_
          have hb2 := undrew hb1
          clear w1'
          go_wp2
          go_roundw
          case rel =>
            have hm0 := HM0.out; have he0 := HE0.out
            refine ⟨lo, q, rfl, rfl, hq1, hal, by omega, by omega, HLM.out, H1.out, Or.inr (Or.inr ⟨hql, hqr, by omega, ?_⟩), HT.out.mono hb2, grown_trans hg (grown_row' hb2)⟩
            have h5 := HBf.out; rw [HX.out, HY.out] at h5; exact h5
          case measure => simp [intOf] <;> omega
        · have hc : decide (cmpT y x < 0) = false := by have : ¬ cmpT y x < 0 := fun h => hbx ((cmpT_neg y x).1 h); simp; omega
          have hc2 : decide (0 ≤ cmpT y x) = true := by have : ¬ cmpT y x < 0 := fun h => hbx ((cmpT_neg y x).1 h); simp; omega
          have HBf := Lib.hid hbx; clear hbx
          go_wp2_with fail
          simp only [EQ.out]
          refine wp_region_ordG [(0, 1), (1, 1), (2, 1), (3, 1), (4, 1), (5, 1), (6, 2), (7, 1), (8, 1), (9, 1), (10, 2), (11, 0), (12, 1), (13, 1)] [11] (none) (by kernel_rfl) (by kernel_rfl) ?_
          (repeat ((first | with_reducible refine wpOrdG_soft (fun K hK => ?_) | with_reducible refine wpOrdG_pre (fun K hK => ?_)); simp only [List.getElem?_toArray, List.getElem?_cons_zero, List.getElem?_cons_succ]; first | (go_simp; refine hK _ ?_) | (simp only [undef]; go_simp; refine hK _ ?_); clear hK K))
          (with_reducible refine wpOrdG_hard ?_; simp only [List.getElem?_toArray, List.getElem?_cons_zero, List.getElem?_cons_succ])
          go_wp2_with fail
          refine (compareTones_any y x _).mono ?_
          rintro e w1 ⟨rfl, hb1⟩
          go_wp2_with fail
          refine ⟨grown_of_below hb1, ?_⟩
          (repeat ((first | with_reducible refine wpOrdG_soft (fun K hK => ?_) | with_reducible refine wpOrdG_pre (fun K hK => ?_)); simp only [List.getElem?_toArray, List.getElem?_cons_zero, List.getElem?_cons_succ]; first | (go_simp; refine hK _ ?_) | (simp only [undef]; go_simp; refine hK _ ?_); clear hK K))
          (with_reducible refine wpOrdG_nil ?_); refine NoPanic.normal ?_
          have hb2 := undrew hb1
          clear w1'
          go_wp2
          go_roundw
          case rel =>
            have hm0 := HM0.out; have he0 := HE0.out
            refine ⟨q + 1, hi, by go_num, rfl, hq2, by omega, hhm, hhm2, by have := HLM.out; omega, Or.inr ?_, H2.out, HT.out.mono hb2, grown_trans hg (grown_row' hb2)⟩
            have e1 : q + 1 - a - 1 = q - a := by omega
            have e2 : M - (q + 1 - a) = M - 1 - (q - a) := by omega
            simp only [e1, e2]
            refine ⟨hql, hqr, by omega, ?_⟩
            have h5 := HBf.out; rw [HX.out, HY.out] at h5; exact h5
          case measure => simp [intOf] <;> omega
      · obtain rfl : lo = hi := by omega
        obtain ⟨L1, L2, R1, R2, l1, l2, l3, l4, s1, s2, s3, s4, he, hfin⟩ := sym_parts (A := A) (C := C) HL.out HR.out h1 h2 (by omega) (by omega) (by omega)
        rw [he] at hT
        obtain ⟨en, hen⟩ : ∃ en : Nat, en = mid + m - lo := ⟨_, rfl⟩
        have EE := Lib.hid (show (n0 : Int) - (lo : Int) = (en : Int) by omega)
        have hsum : L1.length + R1.length < L.length + R.length ∧ L2.length + R2.length < L.length + R.length := by omega
        have z1 : A.length + L1.length = lo := by rw [HA.out]; omega
        have z2 : lo + L2.length = m := by omega
        have z3 : m + R1.length = en := by omega
        have z4 : en + R2.length = b := by omega
        have z5 : lo + R1.length = mid := by omega
        have z6 : mid + L2.length = en := by omega
        have i1 : mid ≤ en := by omega
        have i2 : lo ≤ m := by omega
        have i3 : m ≤ en := by omega
        have i4 : lo ≤ mid := by omega
        have i5 : en ≤ b := by omega
        have i6 : lo ≤ n0 := by omega
        have i7 : n0 ≤ 3000000 := by omega
        have S1 := Lib.hid s1; have S2 := Lib.hid s2; have S3 := Lib.hid s3; have S4 := Lib.hid s4; have FN := Lib.hid hfin; have HS := Lib.hid hsum
        have Z1 := Lib.hid z1; have Z2 := Lib.hid z2; have Z3 := Lib.hid z3; have Z4 := Lib.hid z4; have Z5 := Lib.hid z5; have Z6 := Lib.hid z6
        have hT0 := Lib.hid hT
        clear l1 l2 l3 l4 s1 s2 s3 s4 he hfin hsum z1 z2 z3 z4 z5 z6 hT h1 h2 hE0 hB0 hM0 hen hn0 hp0
        have d9 : decide ((lo : Int) < (lo : Int)) = false := by simp
        by_cases r1 : lo < m
        · have f1 : decide ((lo : Int) < (m : Int)) = true := by simp; omega
          by_cases r2 : m < en
          · have f2 : decide ((m : Int) < (n0 : Int) - (lo : Int)) = true := by rw [EE.out]; simp; omega
            go_wp2_with fail
            simp only [EE.out]
            refine (rotate_any base g n cap lo m en (.func (.func 102) #[] #[]) (A ++ L1) L2 R1 (R2 ++ C) _ hT0.out hn (by rw [List.length_append]; exact Z1.out) (by rw [List.length_append, Z1.out]; exact Z2.out) (by rw [List.length_append, Z1.out]; have := Z2.out; have := Z3.out; omega) (by have := Z2.out; omega) (by have := Z3.out; omega)).mono ?_
            rintro e w1 ⟨rfl, hT1, hg1⟩
            have HT1 := Lib.hid hT1
            have hg := grown_trans hg hg1
            clear hT1 hg1
            by_cases r3 : a < lo
            · have f3 : decide ((a : Int) < (lo : Int)) = true := by simp; omega
              by_cases r4 : lo < mid
              · have f4 : decide ((lo : Int) < (mid : Int)) = true := by simp; omega
                go_wp2_with fail
                have cl := IH.out a lo mid A L1 R1 (L2 ++ (R2 ++ C)) _ (by have := HT1.out; rw [List.append_assoc] at this; exact this) HA.out (by have := Z1.out; rw [HA.out] at this; exact this) Z5.out (by have := Z1.out; have := HA.out; omega) (by have := Z5.out; omega) HS.out.1 S1.out S3.out
                unfold SymTo at cl
                refine cl.mono ?_
                rintro e w2 ⟨rfl, ⟨X1, p1, o1, hT2⟩, hg2⟩
                have HT2 := Lib.hid hT2; have P1 := Lib.hid p1; have O1 := Lib.hid o1
                have hg := grown_trans hg hg2
                clear hT2 hg2 p1 o1 cl
                by_cases r5 : mid < en
                · have f5 : decide ((mid : Int) < (en : Int)) = true := by simp; omega
                  have f5' : decide ((mid : Int) < (n0 : Int) - (lo : Int)) = true := by rw [EE.out]; simp; omega
                  by_cases r6 : en < b
                  · have f6 : decide ((en : Int) < (b : Int)) = true := by simp; omega
                    have f6' : decide ((n0 : Int) - (lo : Int) < (b : Int)) = true := by rw [EE.out]; simp; omega
                    go_wp2_with fail
                    try simp only [EE.out]
                    have cl := IH.out mid en b (A ++ X1) L2 R2 C _ (by have := HT2.out; rw [← List.append_assoc] at this; exact this) (by rw [List.length_append, P1.out.length_eq, List.length_append]; have := Z1.out; have := Z5.out; omega) Z6.out Z4.out (by have := Z6.out; omega) (by have := Z4.out; omega) HS.out.2 S2.out S4.out
                    unfold SymTo at cl
                    refine cl.mono ?_
                    rintro e w3 ⟨rfl, ⟨X2, p2, o2, hT3⟩, hg3⟩
                    have HT3 := Lib.hid hT3; have P2 := Lib.hid p2; have O2 := Lib.hid o2
                    have hg := grown_trans hg hg3
                    clear hT3 hg3 p2 o2 cl
                    go_wp2
                    go_end0
                    exact ⟨rfl, ⟨X1 ++ X2, (FN.out X1 X2 P1.out P2.out O1.out O2.out).1, (FN.out X1 X2 P1.out P2.out O1.out O2.out).2, by have := HT3.out; simp only [List.append_assoc] at this ⊢; exact this⟩, hg⟩
                  · have f6 : decide ((en : Int) < (b : Int)) = false := by simp; omega
                    have f6' : decide ((n0 : Int) - (lo : Int) < (b : Int)) = false := by rw [EE.out]; simp; omega
                    go_wp2
                    go_end0
                    have O2 : Srt (L2 ++ R2) := srt_two S2.out S4.out (Or.inr (by have := Z4.out; omega))
                    exact ⟨rfl, ⟨X1 ++ (L2 ++ R2), (FN.out X1 _ P1.out (List.Perm.refl _) O1.out O2).1, (FN.out X1 _ P1.out (List.Perm.refl _) O1.out O2).2, by have := HT2.out; simp only [List.append_assoc] at this ⊢; exact this⟩, hg⟩
                · have f5 : decide ((mid : Int) < (en : Int)) = false := by simp; omega
                  have f5' : decide ((mid : Int) < (n0 : Int) - (lo : Int)) = false := by rw [EE.out]; simp; omega
                  go_wp2
                  go_end0
                  have O2 : Srt (L2 ++ R2) := srt_two S2.out S4.out (Or.inl (by have := Z6.out; omega))
                  exact ⟨rfl, ⟨X1 ++ (L2 ++ R2), (FN.out X1 _ P1.out (List.Perm.refl _) O1.out O2).1, (FN.out X1 _ P1.out (List.Perm.refl _) O1.out O2).2, by have := HT2.out; simp only [List.append_assoc] at this ⊢; exact this⟩, hg⟩
              · have f4 : decide ((lo : Int) < (mid : Int)) = false := by simp; omega
                have HT2 := Lib.hid (show TR w1 base g n cap (A ++ ((L1 ++ R1) ++ (L2 ++ (R2 ++ C)))) by have := HT1.out; simp only [List.append_assoc] at this ⊢; exact this)
                obtain ⟨X1, hX1⟩ : ∃ X1, X1 = L1 ++ R1 := ⟨_, rfl⟩
                rw [← hX1] at HT2
                have P1 := Lib.hid (show X1.Perm (L1 ++ R1) by rw [hX1])
                have O1 := Lib.hid (show Srt X1 by rw [hX1]; exact srt_two S1.out S3.out (Or.inr (by have := Z5.out; omega)))
                clear hX1
                by_cases r5 : mid < en
                · have f5 : decide ((mid : Int) < (en : Int)) = true := by simp; omega
                  have f5' : decide ((mid : Int) < (n0 : Int) - (lo : Int)) = true := by rw [EE.out]; simp; omega
                  by_cases r6 : en < b
                  · have f6 : decide ((en : Int) < (b : Int)) = true := by simp; omega
                    have f6' : decide ((n0 : Int) - (lo : Int) < (b : Int)) = true := by rw [EE.out]; simp; omega
                    go_wp2_with fail
                    try simp only [EE.out]
                    have cl := IH.out mid en b (A ++ X1) L2 R2 C _ (by have := HT2.out; rw [← List.append_assoc] at this; exact this) (by rw [List.length_append, P1.out.length_eq, List.length_append]; have := Z1.out; have := Z5.out; omega) Z6.out Z4.out (by have := Z6.out; omega) (by have := Z4.out; omega) HS.out.2 S2.out S4.out
                    unfold SymTo at cl
                    refine cl.mono ?_
                    rintro e w3 ⟨rfl, ⟨X2, p2, o2, hT3⟩, hg3⟩
                    have HT3 := Lib.hid hT3; have P2 := Lib.hid p2; have O2 := Lib.hid o2
                    have hg := grown_trans hg hg3
                    clear hT3 hg3 p2 o2 cl
                    go_wp2
                    go_end0
                    exact ⟨rfl, ⟨X1 ++ X2, (FN.out X1 X2 P1.out P2.out O1.out O2.out).1, (FN.out X1 X2 P1.out P2.out O1.out O2.out).2, by have := HT3.out; simp only [List.append_assoc] at this ⊢; exact this⟩, hg⟩
                  · have f6 : decide ((en : Int) < (b : Int)) = false := by simp; omega
                    have f6' : decide ((n0 : Int) - (lo : Int) < (b : Int)) = false := by rw [EE.out]; simp; omega
                    go_wp2
                    go_end0
                    have O2 : Srt (L2 ++ R2) := srt_two S2.out S4.out (Or.inr (by have := Z4.out; omega))
                    exact ⟨rfl, ⟨X1 ++ (L2 ++ R2), (FN.out X1 _ P1.out (List.Perm.refl _) O1.out O2).1, (FN.out X1 _ P1.out (List.Perm.refl _) O1.out O2).2, by have := HT2.out; simp only [List.append_assoc] at this ⊢; exact this⟩, hg⟩
                · have f5 : decide ((mid : Int) < (en : Int)) = false := by simp; omega
                  have f5' : decide ((mid : Int) < (n0 : Int) - (lo : Int)) = false := by rw [EE.out]; simp; omega
                  go_wp2
                  go_end0
                  have O2 : Srt (L2 ++ R2) := srt_two S2.out S4.out (Or.inl (by have := Z6.out; omega))
                  exact ⟨rfl, ⟨X1 ++ (L2 ++ R2), (FN.out X1 _ P1.out (List.Perm.refl _) O1.out O2).1, (FN.out X1 _ P1.out (List.Perm.refl _) O1.out O2).2, by have := HT2.out; simp only [List.append_assoc] at this ⊢; exact this⟩, hg⟩
            · have f3 : decide ((a : Int) < (lo : Int)) = false := by simp; omega
              have HT2 := Lib.hid (show TR w1 base g n cap (A ++ ((L1 ++ R1) ++ (L2 ++ (R2 ++ C)))) by have := HT1.out; simp only [List.append_assoc] at this ⊢; exact this)
              obtain ⟨X1, hX1⟩ : ∃ X1, X1 = L1 ++ R1 := ⟨_, rfl⟩
              rw [← hX1] at HT2
              have P1 := Lib.hid (show X1.Perm (L1 ++ R1) by rw [hX1])
              have O1 := Lib.hid (show Srt X1 by rw [hX1]; exact srt_two S1.out S3.out (Or.inl (by have := Z1.out; have := HA.out; omega)))
              clear hX1
              by_cases r5 : mid < en
              · have f5 : decide ((mid : Int) < (en : Int)) = true := by simp; omega
                have f5' : decide ((mid : Int) < (n0 : Int) - (lo : Int)) = true := by rw [EE.out]; simp; omega
                by_cases r6 : en < b
                · have f6 : decide ((en : Int) < (b : Int)) = true := by simp; omega
                  have f6' : decide ((n0 : Int) - (lo : Int) < (b : Int)) = true := by rw [EE.out]; simp; omega
                  go_wp2_with fail
                  try simp only [EE.out]
                  have cl := IH.out mid en b (A ++ X1) L2 R2 C _ (by have := HT2.out; rw [← List.append_assoc] at this; exact this) (by rw [List.length_append, P1.out.length_eq, List.length_append]; have := Z1.out; have := Z5.out; omega) Z6.out Z4.out (by have := Z6.out; omega) (by have := Z4.out; omega) HS.out.2 S2.out S4.out
                  unfold SymTo at cl
                  refine cl.mono ?_
                  rintro e w3 ⟨rfl, ⟨X2, p2, o2, hT3⟩, hg3⟩
                  have HT3 := Lib.hid hT3; have P2 := Lib.hid p2; have O2 := Lib.hid o2
                  have hg := grown_trans hg hg3
                  clear hT3 hg3 p2 o2 cl
                  go_wp2
                  go_end0
                  exact ⟨rfl, ⟨X1 ++ X2, (FN.out X1 X2 P1.out P2.out O1.out O2.out).1, (FN.out X1 X2 P1.out P2.out O1.out O2.out).2, by have := HT3.out; simp only [List.append_assoc] at this ⊢; exact this⟩, hg⟩
                · have f6 : decide ((en : Int) < (b : Int)) = false := by simp; omega
                  have f6' : decide ((n0 : Int) - (lo : Int) < (b : Int)) = false := by rw [EE.out]; simp; omega
                  go_wp2
                  go_end0
                  have O2 : Srt (L2 ++ R2) := srt_two S2.out S4.out (Or.inr (by have := Z4.out; omega))
                  exact ⟨rfl, ⟨X1 ++ (L2 ++ R2), (FN.out X1 _ P1.out (List.Perm.refl _) O1.out O2).1, (FN.out X1 _ P1.out (List.Perm.refl _) O1.out O2).2, by have := HT2.out; simp only [List.append_assoc] at this ⊢; exact this⟩, hg⟩
              · have f5 : decide ((mid : Int) < (en : Int)) = false := by simp; omega
                have f5' : decide ((mid : Int) < (n0 : Int) - (lo : Int)) = false := by rw [EE.out]; simp; omega
                go_wp2
                go_end0
                have O2 : Srt (L2 ++ R2) := srt_two S2.out S4.out (Or.inl (by have := Z6.out; omega))
                exact ⟨rfl, ⟨X1 ++ (L2 ++ R2), (FN.out X1 _ P1.out (List.Perm.refl _) O1.out O2).1, (FN.out X1 _ P1.out (List.Perm.refl _) O1.out O2).2, by have := HT2.out; simp only [List.append_assoc] at this ⊢; exact this⟩, hg⟩
          · have f2 : decide ((m : Int) < (n0 : Int) - (lo : Int)) = false := by rw [EE.out]; simp; omega
            have HT1 := Lib.hid (show TR wr base g n cap ((A ++ L1) ++ (R1 ++ (L2 ++ (R2 ++ C)))) by rw [← sym_swap0 A L2 R1 L1 (R2 ++ C) (Or.inr (by have := Z3.out; omega))]; exact hT0.out)
            by_cases r3 : a < lo
            · have f3 : decide ((a : Int) < (lo : Int)) = true := by simp; omega
              by_cases r4 : lo < mid
              · have f4 : decide ((lo : Int) < (mid : Int)) = true := by simp; omega
                go_wp2_with fail
                have cl := IH.out a lo mid A L1 R1 (L2 ++ (R2 ++ C)) _ (by have := HT1.out; rw [List.append_assoc] at this; exact this) HA.out (by have := Z1.out; rw [HA.out] at this; exact this) Z5.out (by have := Z1.out; have := HA.out; omega) (by have := Z5.out; omega) HS.out.1 S1.out S3.out
                unfold SymTo at cl
                refine cl.mono ?_
                rintro e w2 ⟨rfl, ⟨X1, p1, o1, hT2⟩, hg2⟩
                have HT2 := Lib.hid hT2; have P1 := Lib.hid p1; have O1 := Lib.hid o1
                have hg := grown_trans hg hg2
                clear hT2 hg2 p1 o1 cl
                by_cases r5 : mid < en
                · have f5 : decide ((mid : Int) < (en : Int)) = true := by simp; omega
                  have f5' : decide ((mid : Int) < (n0 : Int) - (lo : Int)) = true := by rw [EE.out]; simp; omega
                  by_cases r6 : en < b
                  · have f6 : decide ((en : Int) < (b : Int)) = true := by simp; omega
                    have f6' : decide ((n0 : Int) - (lo : Int) < (b : Int)) = true := by rw [EE.out]; simp; omega
                    go_wp2_with fail
                    try simp only [EE.out]
                    have cl := IH.out mid en b (A ++ X1) L2 R2 C _ (by have := HT2.out; rw [← List.append_assoc] at this; exact this) (by rw [List.length_append, P1.out.length_eq, List.length_append]; have := Z1.out; have := Z5.out; omega) Z6.out Z4.out (by have := Z6.out; omega) (by have := Z4.out; omega) HS.out.2 S2.out S4.out
                    unfold SymTo at cl
                    refine cl.mono ?_
                    rintro e w3 ⟨rfl, ⟨X2, p2, o2, hT3⟩, hg3⟩
                    have HT3 := Lib.hid hT3; have P2 := Lib.hid p2; have O2 := Lib.hid o2
                    have hg := grown_trans hg hg3
                    clear hT3 hg3 p2 o2 cl
                    go_wp2
                    go_end0
                    exact ⟨rfl, ⟨X1 ++ X2, (FN.out X1 X2 P1.out P2.out O1.out O2.out).1, (FN.out X1 X2 P1.out P2.out O1.out O2.out).2, by have := HT3.out; simp only [List.append_assoc] at this ⊢; exact this⟩, hg⟩
                  · have f6 : decide ((en : Int) < (b : Int)) = false := by simp; omega
                    have f6' : decide ((n0 : Int) - (lo : Int) < (b : Int)) = false := by rw [EE.out]; simp; omega
                    go_wp2
                    go_end0
                    have O2 : Srt (L2 ++ R2) := srt_two S2.out S4.out (Or.inr (by have := Z4.out; omega))
                    exact ⟨rfl, ⟨X1 ++ (L2 ++ R2), (FN.out X1 _ P1.out (List.Perm.refl _) O1.out O2).1, (FN.out X1 _ P1.out (List.Perm.refl _) O1.out O2).2, by have := HT2.out; simp only [List.append_assoc] at this ⊢; exact this⟩, hg⟩
                · have f5 : decide ((mid : Int) < (en : Int)) = false := by simp; omega
                  have f5' : decide ((mid : Int) < (n0 : Int) - (lo : Int)) = false := by rw [EE.out]; simp; omega
                  go_wp2
                  go_end0
                  have O2 : Srt (L2 ++ R2) := srt_two S2.out S4.out (Or.inl (by have := Z6.out; omega))
                  exact ⟨rfl, ⟨X1 ++ (L2 ++ R2), (FN.out X1 _ P1.out (List.Perm.refl _) O1.out O2).1, (FN.out X1 _ P1.out (List.Perm.refl _) O1.out O2).2, by have := HT2.out; simp only [List.append_assoc] at this ⊢; exact this⟩, hg⟩
              · have f4 : decide ((lo : Int) < (mid : Int)) = false := by simp; omega
                have HT2 := Lib.hid (show TR wr base g n cap (A ++ ((L1 ++ R1) ++ (L2 ++ (R2 ++ C)))) by have := HT1.out; simp only [List.append_assoc] at this ⊢; exact this)
                obtain ⟨X1, hX1⟩ : ∃ X1, X1 = L1 ++ R1 := ⟨_, rfl⟩
                rw [← hX1] at HT2
                have P1 := Lib.hid (show X1.Perm (L1 ++ R1) by rw [hX1])
                have O1 := Lib.hid (show Srt X1 by rw [hX1]; exact srt_two S1.out S3.out (Or.inr (by have := Z5.out; omega)))
                clear hX1
                by_cases r5 : mid < en
                · have f5 : decide ((mid : Int) < (en : Int)) = true := by simp; omega
                  have f5' : decide ((mid : Int) < (n0 : Int) - (lo : Int)) = true := by rw [EE.out]; simp; omega
                  by_cases r6 : en < b
                  · have f6 : decide ((en : Int) < (b : Int)) = true := by simp; omega
                    have f6' : decide ((n0 : Int) - (lo : Int) < (b : Int)) = true := by rw [EE.out]; simp; omega
                    go_wp2_with fail
                    try simp only [EE.out]
                    have cl := IH.out mid en b (A ++ X1) L2 R2 C _ (by have := HT2.out; rw [← List.append_assoc] at this; exact this) (by rw [List.length_append, P1.out.length_eq, List.length_append]; have := Z1.out; have := Z5.out; omega) Z6.out Z4.out (by have := Z6.out; omega) (by have := Z4.out; omega) HS.out.2 S2.out S4.out
                    unfold SymTo at cl
                    refine cl.mono ?_
                    rintro e w3 ⟨rfl, ⟨X2, p2, o2, hT3⟩, hg3⟩
                    have HT3 := Lib.hid hT3; have P2 := Lib.hid p2; have O2 := Lib.hid o2
                    have hg := grown_trans hg hg3
                    clear hT3 hg3 p2 o2 cl
                    go_wp2
                    go_end0
                    exact ⟨rfl, ⟨X1 ++ X2, (FN.out X1 X2 P1.out P2.out O1.out O2.out).1, (FN.out X1 X2 P1.out P2.out O1.out O2.out).2, by have := HT3.out; simp only [List.append_assoc] at this ⊢; exact this⟩, hg⟩
                  · have f6 : decide ((en : Int) < (b : Int)) = false := by simp; omega
                    have f6' : decide ((n0 : Int) - (lo : Int) < (b : Int)) = false := by rw [EE.out]; simp; omega
                    go_wp2
                    go_end0
                    have O2 : Srt (L2 ++ R2) := srt_two S2.out S4.out (Or.inr (by have := Z4.out; omega))
                    exact ⟨rfl, ⟨X1 ++ (L2 ++ R2), (FN.out X1 _ P1.out (List.Perm.refl _) O1.out O2).1, (FN.out X1 _ P1.out (List.Perm.refl _) O1.out O2).2, by have := HT2.out; simp only [List.append_assoc] at this ⊢; exact this⟩, hg⟩
                · have f5 : decide ((mid : Int) < (en : Int)) = false := by simp; omega
                  have f5' : decide ((mid : Int) < (n0 : Int) - (lo : Int)) = false := by rw [EE.out]; simp; omega
                  go_wp2
                  go_end0
                  have O2 : Srt (L2 ++ R2) := srt_two S2.out S4.out (Or.inl (by have := Z6.out; omega))
                  exact ⟨rfl, ⟨X1 ++ (L2 ++ R2), (FN.out X1 _ P1.out (List.Perm.refl _) O1.out O2).1, (FN.out X1 _ P1.out (List.Perm.refl _) O1.out O2).2, by have := HT2.out; simp only [List.append_assoc] at this ⊢; exact this⟩, hg⟩
            · have f3 : decide ((a : Int) < (lo : Int)) = false := by simp; omega
              have HT2 := Lib.hid (show TR wr base g n cap (A ++ ((L1 ++ R1) ++ (L2 ++ (R2 ++ C)))) by have := HT1.out; simp only [List.append_assoc] at this ⊢; exact this)
              obtain ⟨X1, hX1⟩ : ∃ X1, X1 = L1 ++ R1 := ⟨_, rfl⟩
              rw [← hX1] at HT2
              have P1 := Lib.hid (show X1.Perm (L1 ++ R1) by rw [hX1])
              have O1 := Lib.hid (show Srt X1 by rw [hX1]; exact srt_two S1.out S3.out (Or.inl (by have := Z1.out; have := HA.out; omega)))
              clear hX1
              by_cases r5 : mid < en
              · have f5 : decide ((mid : Int) < (en : Int)) = true := by simp; omega
                have f5' : decide ((mid : Int) < (n0 : Int) - (lo : Int)) = true := by rw [EE.out]; simp; omega
                by_cases r6 : en < b
                · have f6 : decide ((en : Int) < (b : Int)) = true := by simp; omega
                  have f6' : decide ((n0 : Int) - (lo : Int) < (b : Int)) = true := by rw [EE.out]; simp; omega
                  go_wp2_with fail
                  try simp only [EE.out]
                  have cl := IH.out mid en b (A ++ X1) L2 R2 C _ (by have := HT2.out; rw [← List.append_assoc] at this; exact this) (by rw [List.length_append, P1.out.length_eq, List.length_append]; have := Z1.out; have := Z5.out; omega) Z6.out Z4.out (by have := Z6.out; omega) (by have := Z4.out; omega) HS.out.2 S2.out S4.out
                  unfold SymTo at cl
                  refine cl.mono ?_
                  rintro e w3 ⟨rfl, ⟨X2, p2, o2, hT3⟩, hg3⟩
                  have HT3 := Lib.hid hT3; have P2 := Lib.hid p2; have O2 := Lib.hid o2
                  have hg := grown_trans hg hg3
                  clear hT3 hg3 p2 o2 cl
                  go_wp2
                  go_end0
                  exact ⟨rfl, ⟨X1 ++ X2, (FN.out X1 X2 P1.out P2.out O1.out O2.out).1, (FN.out X1 X2 P1.out P2.out O1.out O2.out).2, by have := HT3.out; simp only [List.append_assoc] at this ⊢; exact this⟩, hg⟩
                · have f6 : decide ((en : Int) < (b : Int)) = false := by simp; omega
                  have f6' : decide ((n0 : Int) - (lo : Int) < (b : Int)) = false := by rw [EE.out]; simp; omega
                  go_wp2
                  go_end0
                  have O2 : Srt (L2 ++ R2) := srt_two S2.out S4.out (Or.inr (by have := Z4.out; omega))
                  exact ⟨rfl, ⟨X1 ++ (L2 ++ R2), (FN.out X1 _ P1.out (List.Perm.refl _) O1.out O2).1, (FN.out X1 _ P1.out (List.Perm.refl _) O1.out O2).2, by have := HT2.out; simp only [List.append_assoc] at this ⊢; exact this⟩, hg⟩
              · have f5 : decide ((mid : Int) < (en : Int)) = false := by simp; omega
                have f5' : decide ((mid : Int) < (n0 : Int) - (lo : Int)) = false := by rw [EE.out]; simp; omega
                go_wp2
                go_end0
                have O2 : Srt (L2 ++ R2) := srt_two S2.out S4.out (Or.inl (by have := Z6.out; omega))
                exact ⟨rfl, ⟨X1 ++ (L2 ++ R2), (FN.out X1 _ P1.out (List.Perm.refl _) O1.out O2).1, (FN.out X1 _ P1.out (List.Perm.refl _) O1.out O2).2, by have := HT2.out; simp only [List.append_assoc] at this ⊢; exact this⟩, hg⟩
        · have f1 : decide ((lo : Int) < (m : Int)) = false := by simp; omega
          have HT1 := Lib.hid (show TR wr base g n cap ((A ++ L1) ++ (R1 ++ (L2 ++ (R2 ++ C)))) by rw [← sym_swap0 A L2 R1 L1 (R2 ++ C) (Or.inl (by have := Z2.out; omega))]; exact hT0.out)
          by_cases r3 : a < lo
          · have f3 : decide ((a : Int) < (lo : Int)) = true := by simp; omega
            by_cases r4 : lo < mid
            · have f4 : decide ((lo : Int) < (mid : Int)) = true := by simp; omega
              go_wp2_with fail
              have cl := IH.out a lo mid A L1 R1 (L2 ++ (R2 ++ C)) _ (by have := HT1.out; rw [List.append_assoc] at this; exact this) HA.out (by have := Z1.out; rw [HA.out] at this; exact this) Z5.out (by have := Z1.out; have := HA.out; omega) (by have := Z5.out; omega) HS.out.1 S1.out S3.out
              unfold SymTo at cl
              refine cl.mono ?_
              rintro e w2 ⟨rfl, ⟨X1, p1, o1, hT2⟩, hg2⟩
              have HT2 := Lib.hid hT2; have P1 := Lib.hid p1; have O1 := Lib.hid o1
              have hg := grown_trans hg hg2
              clear hT2 hg2 p1 o1 cl
              by_cases r5 : mid < en
              · have f5 : decide ((mid : Int) < (en : Int)) = true := by simp; omega
                have f5' : decide ((mid : Int) < (n0 : Int) - (lo : Int)) = true := by rw [EE.out]; simp; omega
                by_cases r6 : en < b
                · have f6 : decide ((en : Int) < (b : Int)) = true := by simp; omega
                  have f6' : decide ((n0 : Int) - (lo : Int) < (b : Int)) = true := by rw [EE.out]; simp; omega
                  go_wp2_with fail
                  try simp only [EE.out]
                  have cl := IH.out mid en b (A ++ X1) L2 R2 C _ (by have := HT2.out; rw [← List.append_assoc] at this; exact this) (by rw [List.length_append, P1.out.length_eq, List.length_append]; have := Z1.out; have := Z5.out; omega) Z6.out Z4.out (by have := Z6.out; omega) (by have := Z4.out; omega) HS.out.2 S2.out S4.out
                  unfold SymTo at cl
                  refine cl.mono ?_
                  rintro e w3 ⟨rfl, ⟨X2, p2, o2, hT3⟩, hg3⟩
                  have HT3 := Lib.hid hT3; have P2 := Lib.hid p2; have O2 := Lib.hid o2
                  have hg := grown_trans hg hg3
                  clear hT3 hg3 p2 o2 cl
                  go_wp2
                  go_end0
                  exact ⟨rfl, ⟨X1 ++ X2, (FN.out X1 X2 P1.out P2.out O1.out O2.out).1, (FN.out X1 X2 P1.out P2.out O1.out O2.out).2, by have := HT3.out; simp only [List.append_assoc] at this ⊢; exact this⟩, hg⟩
                · have f6 : decide ((en : Int) < (b : Int)) = false := by simp; omega
                  have f6' : decide ((n0 : Int) - (lo : Int) < (b : Int)) = false := by rw [EE.out]; simp; omega
                  go_wp2
                  go_end0
                  have O2 : Srt (L2 ++ R2) := srt_two S2.out S4.out (Or.inr (by have := Z4.out; omega))
                  exact ⟨rfl, ⟨X1 ++ (L2 ++ R2), (FN.out X1 _ P1.out (List.Perm.refl _) O1.out O2).1, (FN.out X1 _ P1.out (List.Perm.refl _) O1.out O2).2, by have := HT2.out; simp only [List.append_assoc] at this ⊢; exact this⟩, hg⟩
              · have f5 : decide ((mid : Int) < (en : Int)) = false := by simp; omega
                have f5' : decide ((mid : Int) < (n0 : Int) - (lo : Int)) = false := by rw [EE.out]; simp; omega
                go_wp2
                go_end0
                have O2 : Srt (L2 ++ R2) := srt_two S2.out S4.out (Or.inl (by have := Z6.out; omega))
                exact ⟨rfl, ⟨X1 ++ (L2 ++ R2), (FN.out X1 _ P1.out (List.Perm.refl _) O1.out O2).1, (FN.out X1 _ P1.out (List.Perm.refl _) O1.out O2).2, by have := HT2.out; simp only [List.append_assoc] at this ⊢; exact this⟩, hg⟩
            · have f4 : decide ((lo : Int) < (mid : Int)) = false := by simp; omega
              have HT2 := Lib.hid (show TR wr base g n cap (A ++ ((L1 ++ R1) ++ (L2 ++ (R2 ++ C)))) by have := HT1.out; simp only [List.append_assoc] at this ⊢; exact this)
              obtain ⟨X1, hX1⟩ : ∃ X1, X1 = L1 ++ R1 := ⟨_, rfl⟩
              rw [← hX1] at HT2
              have P1 := Lib.hid (show X1.Perm (L1 ++ R1) by rw [hX1])
              have O1 := Lib.hid (show Srt X1 by rw [hX1]; exact srt_two S1.out S3.out (Or.inr (by have := Z5.out; omega)))
              clear hX1
              by_cases r5 : mid < en
              · have f5 : decide ((mid : Int) < (en : Int)) = true := by simp; omega
                have f5' : decide ((mid : Int) < (n0 : Int) - (lo : Int)) = true := by rw [EE.out]; simp; omega
                by_cases r6 : en < b
                · have f6 : decide ((en : Int) < (b : Int)) = true := by simp; omega
                  have f6' : decide ((n0 : Int) - (lo : Int) < (b : Int)) = true := by rw [EE.out]; simp; omega
                  go_wp2_with fail
                  try simp only [EE.out]
                  have cl := IH.out mid en b (A ++ X1) L2 R2 C _ (by have := HT2.out; rw [← List.append_assoc] at this; exact this) (by rw [List.length_append, P1.out.length_eq, List.length_append]; have := Z1.out; have := Z5.out; omega) Z6.out Z4.out (by have := Z6.out; omega) (by have := Z4.out; omega) HS.out.2 S2.out S4.out
                  unfold SymTo at cl
                  refine cl.mono ?_
                  rintro e w3 ⟨rfl, ⟨X2, p2, o2, hT3⟩, hg3⟩
                  have HT3 := Lib.hid hT3; have P2 := Lib.hid p2; have O2 := Lib.hid o2
                  have hg := grown_trans hg hg3
                  clear hT3 hg3 p2 o2 cl
                  go_wp2
                  go_end0
                  exact ⟨rfl, ⟨X1 ++ X2, (FN.out X1 X2 P1.out P2.out O1.out O2.out).1, (FN.out X1 X2 P1.out P2.out O1.out O2.out).2, by have := HT3.out; simp only [List.append_assoc] at this ⊢; exact this⟩, hg⟩
                · have f6 : decide ((en : Int) < (b : Int)) = false := by simp; omega
                  have f6' : decide ((n0 : Int) - (lo : Int) < (b : Int)) = false := by rw [EE.out]; simp; omega
                  go_wp2
                  go_end0
                  have O2 : Srt (L2 ++ R2) := srt_two S2.out S4.out (Or.inr (by have := Z4.out; omega))
                  exact ⟨rfl, ⟨X1 ++ (L2 ++ R2), (FN.out X1 _ P1.out (List.Perm.refl _) O1.out O2).1, (FN.out X1 _ P1.out (List.Perm.refl _) O1.out O2).2, by have := HT2.out; simp only [List.append_assoc] at this ⊢; exact this⟩, hg⟩
              · have f5 : decide ((mid : Int) < (en : Int)) = false := by simp; omega
                have f5' : decide ((mid : Int) < (n0 : Int) - (lo : Int)) = false := by rw [EE.out]; simp; omega
                go_wp2
                go_end0
                have O2 : Srt (L2 ++ R2) := srt_two S2.out S4.out (Or.inl (by have := Z6.out; omega))
                exact ⟨rfl, ⟨X1 ++ (L2 ++ R2), (FN.out X1 _ P1.out (List.Perm.refl _) O1.out O2).1, (FN.out X1 _ P1.out (List.Perm.refl _) O1.out O2).2, by have := HT2.out; simp only [List.append_assoc] at this ⊢; exact this⟩, hg⟩
          · have f3 : decide ((a : Int) < (lo : Int)) = false := by simp; omega
            have HT2 := Lib.hid (show TR wr base g n cap (A ++ ((L1 ++ R1) ++ (L2 ++ (R2 ++ C)))) by have := HT1.out; simp only [List.append_assoc] at this ⊢; exact this)
            obtain ⟨X1, hX1⟩ : ∃ X1, X1 = L1 ++ R1 := ⟨_, rfl⟩
            rw [← hX1] at HT2
            have P1 := Lib.hid (show X1.Perm (L1 ++ R1) by rw [hX1])
            have O1 := Lib.hid (show Srt X1 by rw [hX1]; exact srt_two S1.out S3.out (Or.inl (by have := Z1.out; have := HA.out; omega)))
            clear hX1
            by_cases r5 : mid < en
            · have f5 : decide ((mid : Int) < (en : Int)) = true := by simp; omega
              have f5' : decide ((mid : Int) < (n0 : Int) - (lo : Int)) = true := by rw [EE.out]; simp; omega
              by_cases r6 : en < b
              · have f6 : decide ((en : Int) < (b : Int)) = true := by simp; omega
                have f6' : decide ((n0 : Int) - (lo : Int) < (b : Int)) = true := by rw [EE.out]; simp; omega
                go_wp2_with fail
                try simp only [EE.out]
                have cl := IH.out mid en b (A ++ X1) L2 R2 C _ (by have := HT2.out; rw [← List.append_assoc] at this; exact this) (by rw [List.length_append, P1.out.length_eq, List.length_append]; have := Z1.out; have := Z5.out; omega) Z6.out Z4.out (by have := Z6.out; omega) (by have := Z4.out; omega) HS.out.2 S2.out S4.out
                unfold SymTo at cl
                refine cl.mono ?_
                rintro e w3 ⟨rfl, ⟨X2, p2, o2, hT3⟩, hg3⟩
                have HT3 := Lib.hid hT3; have P2 := Lib.hid p2; have O2 := Lib.hid o2
                have hg := grown_trans hg hg3
                clear hT3 hg3 p2 o2 cl
                go_wp2
                go_end0
                exact ⟨rfl, ⟨X1 ++ X2, (FN.out X1 X2 P1.out P2.out O1.out O2.out).1, (FN.out X1 X2 P1.out P2.out O1.out O2.out).2, by have := HT3.out; simp only [List.append_assoc] at this ⊢; exact this⟩, hg⟩
              · have f6 : decide ((en : Int) < (b : Int)) = false := by simp; omega
                have f6' : decide ((n0 : Int) - (lo : Int) < (b : Int)) = false := by rw [EE.out]; simp; omega
                go_wp2
                go_end0
                have O2 : Srt (L2 ++ R2) := srt_two S2.out S4.out (Or.inr (by have := Z4.out; omega))
                exact ⟨rfl, ⟨X1 ++ (L2 ++ R2), (FN.out X1 _ P1.out (List.Perm.refl _) O1.out O2).1, (FN.out X1 _ P1.out (List.Perm.refl _) O1.out O2).2, by have := HT2.out; simp only [List.append_assoc] at this ⊢; exact this⟩, hg⟩
            · have f5 : decide ((mid : Int) < (en : Int)) = false := by simp; omega
              have f5' : decide ((mid : Int) < (n0 : Int) - (lo : Int)) = false := by rw [EE.out]; simp; omega
              go_wp2
              go_end0
              have O2 : Srt (L2 ++ R2) := srt_two S2.out S4.out (Or.inl (by have := Z6.out; omega))
              exact ⟨rfl, ⟨X1 ++ (L2 ++ R2), (FN.out X1 _ P1.out (List.Perm.refl _) O1.out O2).1, (FN.out X1 _ P1.out (List.Perm.refl _) O1.out O2).2, by have := HT2.out; simp only [List.append_assoc] at this ⊢; exact this⟩, hg⟩

end Go.Proofs.Ytemmnjokojgjaaa
/- Rows cut in blocks that are each in order. No program in sight. Then symMerge for all lengths. -/
set_option linter.unusedSimpArgs false
set_option linter.unnecessarySimpa false
set_option linter.unusedVariables false
namespace Go.Proofs.Ytemmnjokojgjaaa
open Go.RowKit

inductive Blk (k : Nat) : List Ton → Prop
  | last (S : List Ton) : Srt S → S.length ≤ k → Blk k S
  | cons (S R : List Ton) : Srt S → S.length = k → Blk k R → Blk k (S ++ R)
/-- Whole blocks alone. -/
def Full (k : Nat) (P : List Ton) : Prop := ∀ Q, Blk k Q → Blk k (P ++ Q)
theorem full_nil (k : Nat) : Full k [] := fun Q h => h
theorem Full.snoc {k : Nat} {P S : List Ton} (h : Full k P) (hs : Srt S) (hl : S.length = k) : Full k (P ++ S) := fun Q hQ => by
  rw [List.append_assoc]; exact h _ (.cons S Q hs hl hQ)
theorem Blk.nil (k : Nat) : Blk k [] := .last [] srt_nil (Nat.zero_le _)
theorem Blk.all {k : Nat} {d : List Ton} (h : Blk k d) (hl : d.length ≤ k) : Srt d := by
  cases h with
  | last _ h _ => exact h
  | cons S R h1 h2 h3 =>
    rw [List.length_append] at hl
    rw [List.eq_nil_of_length_eq_zero (l := R) (by omega), List.append_nil]; exact h1
theorem Blk.two {k : Nat} {d : List Ton} (hk : 0 < k) (h : Blk k d) (hl : 2 * k ≤ d.length) : ∃ L R Q, d = L ++ (R ++ Q) ∧ L.length = k ∧ R.length = k ∧ Srt L ∧ Srt R ∧ Blk k Q := by
  cases h with
  | last _ h g => omega
  | cons S R h1 h2 h3 =>
    rw [List.length_append] at hl
    cases h3 with
    | last _ h g => exact ⟨S, R, [], by simp, h2, by omega, h1, h, Blk.nil k⟩
    | cons S' R' g1 g2 g3 => exact ⟨S, S', R', rfl, h2, g2, h1, g1, g3⟩
theorem Blk.tail {k : Nat} {d : List Ton} (hk : 0 < k) (h : Blk k d) (hl : d.length < 2 * k) (hl2 : k < d.length) : ∃ L R, d = L ++ R ∧ L.length = k ∧ 0 < R.length ∧ Srt L ∧ Srt R := by
  cases h with
  | last _ h g => omega
  | cons S R h1 h2 h3 =>
    rw [List.length_append] at hl hl2
    exact ⟨S, R, rfl, h2, by omega, h1, h3.all (by omega)⟩

theorem symM_any (base g n cap : Nat) (hn : n ≤ 1000000) : ∀ N, SymIH base g n cap N := by
  intro N
  induction N with
  | zero => intro a m b A L R C w h ha hm hb hL hR hlt; omega
  | succ N ih =>
    intro a m b A L R C w h ha hm hb hL hR hlt sL sR
    by_cases l1 : L.length = 1
    · obtain ⟨x, rfl⟩ := List.length_eq_one_iff.1 l1
      exact symA_any base g n cap a m b A R C x w h hn ha (by simpa using hm) hb sR
    · by_cases r1 : R.length = 1
      · obtain ⟨x, rfl⟩ := List.length_eq_one_iff.1 r1
        exact symB_any base g n cap a m b A L C x w h hn ha hm (by simpa using hb) sL l1
      · exact symC_any base g n cap a m b A L R C w h hn ha hm hb (by omega) (by omega) sL sR (fun a' m' b' A' L' R' C' w' k1 k2 k3 k4 k5 k6 k7 k8 k9 => ih a' m' b' A' L' R' C' w' k1 k2 k3 k4 k5 k6 (by omega) k8 k9)

end Go.Proofs.Ytemmnjokojgjaaa
/- Contracts of stableCmpFunc and SortStableFunc at tones. -/
set_option linter.unusedSimpArgs false
set_option linter.unnecessarySimpa false
set_option linter.unusedVariables false
set_option maxRecDepth 100000
namespace Go.Proofs.Ytemmnjokojgjaaa
open Go.RowKit

set_option maxHeartbeats 4000000 in
theorem stable_any (base g n cap : Nat) (d : List Ton) (w : World) (h : TR w base g n cap d) (hn : n ≤ 1000000) :
    Calls Try.prog 114 #[.slice (some ⟨g, 0, none⟩) n cap, .int .i64 n, .func (.func 102) #[] #[]] w fun e w' => e = .returned (.tuple #[]) ∧ (∃ S', S'.Perm d ∧ Srt S' ∧ TR w' base g n cap S') ∧ w.grownBy w' (some g) := by
  have hln := h.len
  have HN := Lib.hid hln; clear hln
  go_enter Try.func114, Try.ntmps114
  go_wp2_with fail
  go_loopw [7, 8] (fun i j wr => ∃ (P Q : List Ton) (a : Nat), i = .int .i64 (a : Int) ∧ j = .int .i64 ((a : Int) + 20) ∧ P.length = a ∧ a + Q.length = n ∧ Full 20 P ∧ (P ++ Q).Perm d ∧ TR wr base g n cap (P ++ Q) ∧ w.grownBy wr (some g)) (fun i j _ => n + 20 - (intOf i).toNat)
  case atStart => exact ⟨[], d, 0, by go_num, by go_num, rfl, by rw [HN.out]; omega, full_nil _, List.Perm.refl _, h, World.grownBy.refl _ _⟩
  case round =>
    obtain ⟨P, Q, a, rfl, rfl, hP, hQ, hF, hp, hT, hg⟩ := hrel
    by_cases hlt : a + 20 ≤ n
    · have d0 : decide ((a : Int) + 20 ≤ (n : Int)) = true := by simp; omega
      have k1 : (Q.take 20).length = 20 := by rw [List.length_take]; omega
      have k2 : (Q.drop 20).length = Q.length - 20 := by rw [List.length_drop]
      have HP := Lib.hid hP; have HQ := Lib.hid hQ; have HF := Lib.hid hF; have HPm := Lib.hid hp; have HT := Lib.hid hT; have K1 := Lib.hid k1; have K2 := Lib.hid k2
      clear hP hQ hF hp hT k1 k2
      have EA := Lib.hid (show (a : Int) + 20 = ((a + 20 : Nat) : Int) by omega)
      go_wp2_with fail
      simp only [EA.out]
      refine (insS_any base g n cap a (a + 20) P (Q.take 20) (Q.drop 20) _ (by rw [List.take_append_drop]; exact HT.out) hn HP.out (by rw [HP.out, K1.out])).mono ?_
      rintro e w1 ⟨rfl, ⟨S', p1, s1, hT1⟩, hg1⟩
      have P1 := Lib.hid p1; have S1 := Lib.hid s1; have HT1 := Lib.hid hT1; have HG1 := Lib.hid hg1
      clear p1 s1 hT1 hg1
      go_wp2
      go_roundw
      case rel =>
        have e1 : S'.length = 20 := by rw [P1.out.length_eq, K1.out]
        refine ⟨P ++ S', Q.drop 20, a + 20, by go_num, by go_num, by rw [List.length_append, HP.out, e1], by have := K2.out; have := HQ.out; omega, HF.out.snoc S1.out e1, ?_, by have := HT1.out; rw [← List.append_assoc] at this; exact this, grown_trans hg HG1.out⟩
        refine List.Perm.trans ?_ HPm.out
        rw [List.append_assoc]
        refine List.Perm.append_left P ?_
        have := P1.out.append_right (Q.drop 20)
        rwa [List.take_append_drop] at this
      case measure => simp [intOf] <;> omega
    · have d0 : decide ((a : Int) + 20 ≤ (n : Int)) = false := by simp; omega
      have HP := Lib.hid hP; have HQ := Lib.hid hQ; have HF := Lib.hid hF; have HPm := Lib.hid hp; have HT := Lib.hid hT
      have hQ2 : Q.length ≤ 20 := by omega
      have HQ2 := Lib.hid hQ2
      clear hP hQ hF hp hT hQ2
      go_wp2_with fail
      refine (insS_any base g n cap a n P Q [] _ (by rw [List.append_nil]; exact HT.out) hn HP.out (by rw [HP.out]; exact HQ.out)).mono ?_
      rintro e w1 ⟨rfl, ⟨S', p1, s1, hT1⟩, hg1⟩
      have hB : Blk 20 (P ++ S') := HF.out _ (.last _ s1 (by rw [p1.length_eq]; exact HQ2.out))
      have hPm : (P ++ S').Perm d := (List.Perm.append_left P p1).trans HPm.out
      have hT2 : TR w1 base g n cap (P ++ S') := by rw [List.append_nil] at hT1; exact hT1
      have hG2 := grown_trans hg hg1
      have HB := Lib.hid hB; have HPm2 := Lib.hid hPm; have HT2 := Lib.hid hT2; have HG2 := Lib.hid hG2
      clear p1 s1 hT1 hg1 hB hPm hT2 hG2 hg
      obtain ⟨d1, hd1⟩ : ∃ d1, d1 = P ++ S' := ⟨_, rfl⟩
      rw [← hd1] at HB HPm2 HT2
      clear hd1
      go_wp2_with fail
      go_loopw [6] (fun bv wr => ∃ (bs : Nat) (d1 : List Ton), bv = .int .i64 (bs : Int) ∧ 0 < bs ∧ bs ≤ 2 * n + 20 ∧ Blk bs d1 ∧ d1.Perm d ∧ TR wr base g n cap d1 ∧ w.grownBy wr (some g)) (fun bv _ => n - (intOf bv).toNat)
      case atStart => exact ⟨20, d1, by go_num, by omega, by omega, HB.out, HPm2.out, HT2.out, HG2.out⟩
      case round =>
        clear HB HPm2 HT2 HG2 HP HQ HF HPm HT HQ2
        obtain ⟨bs, d2, rfl, hbs, hbs2, hB, hPm, hT, hg⟩ := hrel
        have HB := Lib.hid hB; have HPm := Lib.hid hPm; have HT := Lib.hid hT
        clear hB hPm hT
        by_cases hlb : bs < n
        · have d5 : decide ((bs : Int) < (n : Int)) = true := by simp; omega
          have hbz : ¬ (bs : Int) = 0 := by omega
          obtain ⟨wo, rfl⟩ : ∃ wo : World, wo = wr := ⟨_, rfl⟩
          have hgo : wo.grownBy wo (some g) := World.grownBy.refl _ _
          go_wp2_with fail
          go_loopw [7, 8] (fun i j wr => ∃ (P Q : List Ton) (a : Nat), i = .int .i64 (a : Int) ∧ j = .int .i64 ((a : Int) + 2 * (bs : Int)) ∧ P.length = a ∧ a + Q.length = n ∧ Full (2 * bs) P ∧ Blk bs Q ∧ (P ++ Q).Perm d ∧ TR wr base g n cap (P ++ Q) ∧ w.grownBy wr (some g)) (fun i j _ => n + 2 * bs - (intOf i).toNat)
          case atStart => exact ⟨[], d2, 0, by go_num, by go_num, rfl, by have := HT.out.len; omega, full_nil _, HB.out, HPm.out, HT.out, hg⟩
          case round =>
            obtain ⟨P, Q, a, rfl, rfl, hP, hQ, hF, hQB, hp, hT', hg'⟩ := hrel
            by_cases hlt2 : a + 2 * bs ≤ n
            · have d6 : decide ((a : Int) + 2 * (bs : Int) ≤ (n : Int)) = true := by simp; omega
              obtain ⟨L, R, Q2, rfl, lL, lR, sL, sR, bQ⟩ := hQB.two hbs (by omega)
              have EA := Lib.hid (show (a : Int) + (bs : Int) = ((a + bs : Nat) : Int) by omega)
              have EB := Lib.hid (show (a : Int) + 2 * (bs : Int) = ((a + 2 * bs : Nat) : Int) by omega)
              have HP := Lib.hid hP; have HQ := Lib.hid hQ; have HF := Lib.hid hF; have HPm' := Lib.hid hp; have HT' := Lib.hid hT'; have LL := Lib.hid lL; have LR := Lib.hid lR; have SL := Lib.hid sL; have SR := Lib.hid sR; have BQ := Lib.hid bQ
              clear hP hQ hF hp hT' lL lR sL sR bQ hQB
              go_wp2_with fail
              simp only [EA.out, EB.out]
              have cl := symM_any base g n cap hn _ a (a + bs) (a + 2 * bs) P L R Q2 _ HT'.out HP.out (by rw [LL.out]) (by rw [LR.out]; omega) (by rw [LL.out]; omega) (by rw [LR.out]; omega) (Nat.lt_succ_self _) SL.out SR.out
              unfold SymTo at cl
              refine cl.mono ?_
              rintro e w1 ⟨rfl, ⟨S', p1, s1, hT1⟩, hg1⟩
              have P1 := Lib.hid p1; have S1 := Lib.hid s1; have HT1 := Lib.hid hT1; have HG1 := Lib.hid hg1
              clear p1 s1 hT1 hg1 cl
              go_wp2
              go_roundw
              case rel =>
                have e1 : S'.length = 2 * bs := by rw [P1.out.length_eq, List.length_append, LL.out, LR.out]; omega
                refine ⟨P ++ S', Q2, a + 2 * bs, by go_num, by go_num, by rw [List.length_append, HP.out, e1], ?_, HF.out.snoc S1.out e1, BQ.out, ?_, by have := HT1.out; rw [← List.append_assoc] at this; exact this, grown_trans hg' HG1.out⟩
                · have := HQ.out; rw [List.length_append, List.length_append, LL.out, LR.out] at this; omega
                · refine List.Perm.trans ?_ HPm'.out
                  rw [List.append_assoc]
                  refine List.Perm.append_left P ?_
                  have := P1.out.append_right Q2
                  rwa [List.append_assoc] at this
              case measure => simp [intOf] <;> omega
            · have d6 : decide ((a : Int) + 2 * (bs : Int) ≤ (n : Int)) = false := by simp; omega
              have hQ2 : Q.length < 2 * bs := by omega
              by_cases hmn : a + bs < n
              · have d7 : decide ((a : Int) + (bs : Int) < (n : Int)) = true := by simp; omega
                obtain ⟨L, R, rfl, lL, lR, sL, sR⟩ := hQB.tail hbs hQ2 (by omega)
                have EA := Lib.hid (show (a : Int) + (bs : Int) = ((a + bs : Nat) : Int) by omega)
                have HP := Lib.hid hP; have HQ := Lib.hid hQ; have HF := Lib.hid hF; have HPm' := Lib.hid hp; have HT' := Lib.hid hT'; have LL := Lib.hid lL; have LR := Lib.hid lR; have SL := Lib.hid sL; have SR := Lib.hid sR; have HQ2 := Lib.hid hQ2
                clear hP hQ hF hp hT' lL lR sL sR hQB hQ2
                go_wp2_with fail
                simp only [EA.out]
                have cl := symM_any base g n cap hn _ a (a + bs) n P L R [] _ (by rw [List.append_nil]; exact HT'.out) HP.out (by rw [LL.out]) (by have := HQ.out; rw [List.length_append, LL.out] at this; omega) (by rw [LL.out]; omega) LR.out (Nat.lt_succ_self _) SL.out SR.out
                unfold SymTo at cl
                refine cl.mono ?_
                rintro e w1 ⟨rfl, ⟨S', p1, s1, hT1⟩, hg1⟩
                have P1 := Lib.hid p1; have S1 := Lib.hid s1; have HT1 := Lib.hid hT1; have HG1 := Lib.hid hg1
                clear p1 s1 hT1 hg1 cl
                go_wp2
                go_roundw
                case rel =>
                  exact ⟨2 * bs, P ++ S', by go_num, by omega, by omega, HF.out _ (.last _ S1.out (by rw [P1.out.length_eq]; have := HQ2.out; omega)), (List.Perm.append_left P P1.out).trans HPm'.out, by have := HT1.out; rw [List.append_nil] at this; exact this, grown_trans hg' HG1.out⟩
                case measure => simp [intOf] <;> omega
              · have d7 : decide ((a : Int) + (bs : Int) < (n : Int)) = false := by simp; omega
                have hS : Srt Q := hQB.all (by omega)
                have hB2 : Blk (2 * bs) (P ++ Q) := hF _ (.last _ hS (by omega))
                have HB2 := Lib.hid hB2; have HPm' := Lib.hid hp; have HT' := Lib.hid hT'
                have hAn : a ≤ n := by omega
                clear hS hB2 hp hT' hP hQ hF hQB hQ2
                go_wp2
                go_roundw
                case rel =>
                  exact ⟨2 * bs, P ++ Q, by go_num, by omega, by omega, HB2.out, HPm'.out, HT'.out, hg'⟩
                case measure => simp [intOf] <;> omega
        · have d5 : decide ((bs : Int) < (n : Int)) = false := by simp; omega
          go_wp2
          go_end0
          exact ⟨rfl, ⟨d2, HPm.out, HB.out.all (by have := HT.out.len; omega), HT.out⟩, hg⟩

end Go.Proofs.Ytemmnjokojgjaaa
/- Contract of SortStableFunc at tones, on a row of the call's own. -/
set_option linter.unusedSimpArgs false
set_option linter.unnecessarySimpa false
set_option linter.unusedVariables false
set_option maxRecDepth 100000
namespace Go.Proofs.Ytemmnjokojgjaaa
open Go.RowKit

set_option maxHeartbeats 400000 in
theorem insS_nil (w : World) :
    Calls Try.prog 118 #[.slice none 0 0, .int .i64 0, .int .i64 0, .func (.func 102) #[] #[]] w fun e w' => e = .returned (.tuple #[]) ∧ w' = w := by
  go_enter Try.func118, Try.ntmps118
  go_wp2_with fail
  go_loopw [8] (fun i wr => i = .int .i64 1 ∧ wr = w) (fun i _ => 0)
  case atStart => exact ⟨rfl, rfl⟩
  case round =>
    obtain ⟨rfl, rfl⟩ := hrel
    go_wp2
    go_end0
    exact ⟨rfl, rfl⟩

set_option maxHeartbeats 400000 in
theorem stable_nil (w : World) :
    Calls Try.prog 114 #[.slice none 0 0, .int .i64 0, .func (.func 102) #[] #[]] w fun e w' => e = .returned (.tuple #[]) ∧ w' = w := by
  go_enter Try.func114, Try.ntmps114
  go_wp2_with fail
  go_loopw [7, 8] (fun i j wr => i = .int .i64 0 ∧ j = .int .i64 20 ∧ wr = w) (fun i j _ => 0)
  case atStart => exact ⟨rfl, rfl, rfl⟩
  case round =>
    obtain ⟨rfl, rfl, rfl⟩ := hrel
    go_wp2_with fail
    refine (insS_nil _).mono ?_
    rintro e w1 ⟨rfl, rfl⟩
    go_wp2_with fail
    go_loopw [6] (fun i w2 => i = .int .i64 20 ∧ w2 = w1) (fun i _ => 0)
    case atStart => exact ⟨rfl, rfl⟩
    case round =>
      obtain ⟨rfl, rfl⟩ := hrel
      go_wp2
      go_end0
      exact ⟨rfl, rfl⟩

set_option maxHeartbeats 400000 in
theorem sortS_any (base E n : Nat) (v : Value) (d : List Ton) (w : World) (h : OwnRow base E w 92 3 v n (d.flatMap Ton.cells)) (hd : d.length = n) (hn : n ≤ 1000000) :
    Calls Try.prog 104 #[v, .func (.func 102) #[] #[]] w fun e w' => e = .returned (.tuple #[]) ∧ (∃ d', d'.Perm d ∧ Srt d' ∧ OwnRow base E w' 92 3 v n (d'.flatMap Ton.cells)) ∧ Touch base E w w' := by
  have h2 := h.2
  rcases h.1.2 with ⟨rfl, rfl⟩ | ⟨g, cap, cur, rfl, hbg, hgg, hrest⟩
  · have e0 : d = [] := List.eq_nil_of_length_eq_zero hd
    subst e0
    go_enter Try.func104, Try.ntmps104
    go_wp2_with fail
    refine (stable_nil _).mono ?_
    rintro e w1 ⟨rfl, rfl⟩
    go_wp2
    go_end0
    exact ⟨rfl, ⟨[], List.Perm.refl _, srt_nil, h⟩, Touch.refl _ _ _⟩
  · have HT : TR w base g n cap d := ⟨hd, h.1⟩
    have HG := Lib.hid (h2 g rfl); clear h2
    have HD := Lib.hid hd; clear hd
    go_enter Try.func104, Try.ntmps104
    go_wp2_with fail
    refine (stable_any base g n cap d _ HT hn).mono ?_
    rintro e w1 ⟨rfl, ⟨d', p1, s1, hT1⟩, hg1⟩
    have P1 := Lib.hid p1; have S1 := Lib.hid s1; have T1 := Lib.hid hT1; have G1 := Lib.hid hg1; clear p1 s1 hT1 hg1
    go_wp2
    go_end0
    exact ⟨rfl, ⟨d', P1.out, S1.out, T1.out.2, h.2⟩, Touch.of_grown G1.out (by intro g' hg'; cases hg'; exact ⟨hbg, HG.out⟩)⟩

end Go.Proofs.Ytemmnjokojgjaaa
/- Contract of tuneOf. -/
set_option linter.unusedSimpArgs false
set_option linter.unnecessarySimpa false
set_option linter.unusedVariables false
set_option maxRecDepth 100000
namespace Go.Proofs.Ytemmnjokojgjaaa
open Go.RowKit

instance (x y : Ton) : Decidable (leT x y) := by unfold leT; infer_instance
/-- A row of tones in order. -/
def sortT (d : List Ton) : List Ton := d.mergeSort fun x y => decide (leT x y)
theorem sortT_perm (d : List Ton) : (sortT d).Perm d := List.mergeSort_perm _ _
theorem sortT_srt (d : List Ton) : Srt (sortT d) := by
  have h := List.pairwise_mergeSort (le := fun x y : Ton => decide (leT x y)) (by intro a b c h1 h2; simp at *; exact leT_trans h1 h2) (by intro a b; simp; exact leT_total a b) d
  exact h.imp fun h => by simpa using h
/-- Rows in strict order have no two orders. -/
def Stc (d : List Ton) : Prop := d.Pairwise before
theorem stc_uniq : ∀ (a b : List Ton), Stc a → Srt b → a.Perm b → a = b
  | [], b, _, _, p => (List.nil_perm.1 p).symm
  | x :: a, [], _, _, p => absurd p.length_eq (by simp)
  | x :: a, y :: b, ha, hb, p => by
    have ha' := List.pairwise_cons.1 ha
    have hb' := List.pairwise_cons.1 hb
    have e : x = y := by
      have m1 : y ∈ x :: a := p.mem_iff.2 (List.mem_cons_self ..)
      have m2 : x ∈ y :: b := p.mem_iff.1 (List.mem_cons_self ..)
      rcases List.mem_cons.1 m1 with h | h
      · exact h.symm
      · rcases List.mem_cons.1 m2 with h' | h'
        · exact h'
        · exact absurd (ha'.1 y h) (hb'.1 x h')
    subst e
    rw [stc_uniq a b ha'.2 hb'.2 (List.Perm.cons_inv p)]
theorem tones_stc {d : List Ton} (h : TonesOk d) : Stc d := by
  rw [Stc, List.pairwise_iff_getElem]
  intro i j hi hj hij
  induction j with
  | zero => omega
  | succ j ih =>
    have h1 := (h (j + 1) hj hj).2 (by omega)
    simp only [Nat.add_sub_cancel] at h1
    rcases Nat.lt_or_eq_of_le (Nat.le_of_lt_succ hij) with h2 | h2
    · exact before_trans (ih (by omega) h2) h1
    · subst h2; exact h1
/-- Whatever order a sort leaves, a tune of it is right if one is, and then is that one. -/
theorem ord_eq {d d1 d2 : List Ton} (p1 : d1.Perm d) (p2 : d2.Perm d) (s1 : Srt d1) (s2 : Srt d2) (h : TonesOk d1) : d1 = d2 := stc_uniq _ _ (tones_stc h) s2 (p1.trans p2.symm)

/-- What tuneOf and its like answer. -/
noncomputable def toV (name : ByteArray) (d : List Ton) : TunD := if validTunB ⟨name, sortT d⟩ = true then ⟨name, sortT d⟩ else ⟨.empty, []⟩
noncomputable def toC (name : ByteArray) (d : List Ton) : Int := if validTunB ⟨name, sortT d⟩ = true then 0 else 6
theorem to_yes {name : ByteArray} {d d1 : List Ton} (p1 : d1.Perm d) (s1 : Srt d1) (h : validTunB ⟨name, d1⟩ = true) : toV name d = ⟨name, d1⟩ ∧ toC name d = 0 := by
  have h1 : TunOk ⟨name, d1⟩ := by simpa [validTunB] using h
  have e := ord_eq p1 (sortT_perm d) s1 (sortT_srt d) h1.tones
  unfold toV toC
  rw [← e, if_pos h, if_pos h]; exact ⟨rfl, rfl⟩
theorem to_no {name : ByteArray} {d d1 : List Ton} (p1 : d1.Perm d) (s1 : Srt d1) (h : validTunB ⟨name, d1⟩ = false) : toV name d = ⟨.empty, []⟩ ∧ toC name d = 6 := by
  have h2 : ¬ validTunB ⟨name, sortT d⟩ = true := by
    intro h3
    have h4 : TunOk ⟨name, sortT d⟩ := by simpa [validTunB] using h3
    have e := ord_eq (sortT_perm d) p1 (sortT_srt d) s1 h4.tones
    rw [e, h] at h3; cases h3
  unfold toV toC
  rw [if_neg h2, if_neg h2]; exact ⟨rfl, rfl⟩
theorem ownT_zero (B E : Nat) (w : World) : OwnTun B E w (.agg #[.string .empty, .slice none 0 0]) ⟨.empty, []⟩ := ⟨_, rfl, owns_nil _ _ _ _, fun k hk => by simp [Value.ownBlock] at hk⟩
theorem touch_cell {B E : Nat} {w w' : World} (h : Touch B E w w') {p : Addr} {v : Value} (hp : p.block < w.heap.size) (ho : p.block < B ∨ E ≤ p.block) (hc : w.cell? p = some v) : w'.cell? p = some v := by
  have := h.block p.block hp ho
  unfold World.cell? at *
  rw [this]; exact hc
theorem touch_frozen {B E : Nat} {w w' : World} (h : Touch B E w w') {p : Addr} {v : Bool} (hp : p.block < w.heap.size) (ho : p.block < B ∨ E ≤ p.block) (hc : w.frozen? p = v) : w'.frozen? p = v := by
  have := h.block p.block hp ho
  unfold World.frozen? at *
  rw [this]; exact hc

set_option maxHeartbeats 1000000 in
theorem tuneOf_any (B n : Nat) (name : ByteArray) (v : Value) (d : List Ton) (w : World) (h : OwnRow B w.heap.size w 92 3 v n (d.flatMap Ton.cells)) (hd : d.length = n) (hn : n ≤ 1000000) (hs : name.size ≤ maxLen) (hB : B ≤ w.heap.size) :
    Calls Try.prog 81 #[.string name, v] w fun e w' => ∃ v', e = .returned (.tuple #[v', .int .i64 (toC name d)]) ∧ OwnTun B w'.heap.size w' v' (toV name d) ∧ Touch B w.heap.size w w' := by
  obtain ⟨a, cap, rfl⟩ := h.form
  go_enter Try.func81, Try.ntmps81
  go_wp2_with fail
  refine (sortS_any B w.heap.size n _ d _ (h.mono (by (repeat (first | with_reducible exact Below.refl _ _ | with_reducible exact hbw | (with_reducible refine Below.setCell ?_ ?_ _; rotate_left; · first | exact Nat.le_refl _ | omega | (simp; done) | (simp; omega)) | (with_reducible refine Below.alloc ?_ ?_ _; rotate_left; · first | exact Nat.le_refl _ | omega | (simp; done) | (simp; omega)) | with_reducible refine below_drewN ?_ _ | with_reducible refine Below.drew ?_)))) hd hn).mono ?_
  rintro e w1 ⟨rfl, ⟨d1, p1, s1, ho⟩, ht⟩
  have hz : w.heap.size + 2 ≤ w1.heap.size := by have := ht.size; simp at this; omega
  have y0 : w1.cell? ⟨w.heap.size + 1, 0, none⟩ = some (.string name) := touch_cell ht (by simp <;> omega) (Or.inr (by simp)) (by first | (simp [go_sem]; done) | (simp [go_sem]; rfl))
  have y1 : w1.cell? ⟨w.heap.size + 1, 1, none⟩ = some (.slice a n cap) := touch_cell ht (by simp <;> omega) (Or.inr (by simp)) (by first | (simp [go_sem]; done) | (simp [go_sem]; rfl))
  have r0 : w1.cell? ⟨w.heap.size, 0, none⟩ = some (.string .empty) := touch_cell ht (by simp <;> omega) (Or.inr (by simp)) (by first | (simp [go_sem]; done) | (simp [go_sem]; rfl))
  have r1 : w1.cell? ⟨w.heap.size, 1, none⟩ = some (.slice none 0 0) := touch_cell ht (by simp <;> omega) (Or.inr (by simp)) (by first | (simp [go_sem]; done) | (simp [go_sem]; rfl))
  have f0 : w1.frozen? ⟨w.heap.size, 0, none⟩ = false := touch_frozen ht (by simp <;> omega) (Or.inr (by simp)) (by first | (simp [go_sem]; done) | (simp [go_sem]; rfl))
  have f1 : w1.frozen? ⟨w.heap.size, 1, none⟩ = false := touch_frozen ht (by simp <;> omega) (Or.inr (by simp)) (by first | (simp [go_sem]; done) | (simp [go_sem]; rfl))
  have hl1 : d1.length = n := by rw [p1.length_eq]; exact hd
  have hto : Tun w1 (.agg #[.string name, .slice a n cap]) (.slice a n cap) ⟨name, d1⟩ := ⟨rfl, by have h3 := ho.1; rw [← hl1] at h3 ⊢; exact Tons.of_owns h3⟩
  have htc : Touch B w.heap.size w w1 := by
    refine Touch.trans ?_ ht
    (repeat (first | with_reducible exact Touch.refl _ _ _ | with_reducible exact htc | (with_reducible refine Touch.setCell ?_ ?_ _; rotate_left; · (simp only; omega)) | (with_reducible refine Touch.setNew ?_ ?_ _; rotate_left; · (first | (simp only; omega) | (simp; done) | (simp; omega))) | with_reducible refine Touch.alloc ?_ _ | with_reducible refine Touch.drewN ?_ _ | with_reducible refine Touch.drew ?_))
  have HO := Lib.hid ho; have HTo := Lib.hid hto; have P1 := Lib.hid p1; have S1 := Lib.hid s1; have HL := Lib.hid hl1
  clear ho hto p1 s1 ht hl1 hd
  go_wp2_with fail
  refine (implValidTun_any _ _ ⟨name, d1⟩ _ HTo.out hs).mono ?_
  rintro e w2 ⟨rfl, hb⟩
  have y0 := cellB hb y0
  have y1 := cellB hb y1
  have r0 := cellB hb r0
  have r1 := cellB hb r1
  have f0 := frozenL hb (by simp; omega) f0
  have f1 := frozenL hb (by simp; omega) f1
  have hz0 : w.heap.size + 2 ≤ w2.heap.size := by have := hb.size; omega
  have htc : Touch B w.heap.size w w2 := Touch.step htc hb (by omega)
  have HO2 := Lib.hid (HO.out.mono hb)
  clear HO hz
  have hz1 : w.heap.size < w2.heap.size := by omega
  have hz2 : w.heap.size + 1 < w2.heap.size := by omega
  by_cases hv : validTunB ⟨name, d1⟩ = true
  · obtain ⟨e1, e2⟩ := to_yes P1.out S1.out hv
    have E1 := Lib.hid e1; have E2 := Lib.hid e2
    rw [hv]
    have HL' := Lib.hid (show n = d1.length from HL.out.symm)
    clear e1 e2 hv
    go_wp2
    refine bodyPost_ret (v := .tuple #[.agg #[.string name, .slice a n cap], .int .i64 0]) (by simp [results, Try.results81, go_sem, hz0, hz1, hz2, r0, r1]) rfl ⟨_, by rw [E2.out], ?_, ?_⟩
    · rw [E1.out]
      refine ⟨_, rfl, ?_⟩
      have h3 := HO2.out
      rw [HL'.out] at h3 ⊢
      refine (h3.touch (B' := w.heap.size) (E' := w.heap.size + 1) ?_ (Or.inl (Nat.le_refl _))).wide (Nat.le_refl _) (by simp; omega)
      have htc := Touch.refl w.heap.size (w.heap.size + 1) w2
      (repeat (first | with_reducible exact Touch.refl _ _ _ | with_reducible exact htc | (with_reducible refine Touch.setCell ?_ ?_ _; rotate_left; · (simp only; omega)) | (with_reducible refine Touch.setNew ?_ ?_ _; rotate_left; · (first | (simp only; omega) | (simp; done) | (simp; omega))) | with_reducible refine Touch.alloc ?_ _ | with_reducible refine Touch.drewN ?_ _ | with_reducible refine Touch.drew ?_))
    · (repeat (first | with_reducible exact Touch.refl _ _ _ | with_reducible exact htc | (with_reducible refine Touch.setCell ?_ ?_ _; rotate_left; · (simp only; omega)) | (with_reducible refine Touch.setNew ?_ ?_ _; rotate_left; · (first | (simp only; omega) | (simp; done) | (simp; omega))) | with_reducible refine Touch.alloc ?_ _ | with_reducible refine Touch.drewN ?_ _ | with_reducible refine Touch.drew ?_))
  · have hv' : validTunB ⟨name, d1⟩ = false := by simpa using hv
    obtain ⟨e1, e2⟩ := to_no P1.out S1.out hv'
    have E1 := Lib.hid e1; have E2 := Lib.hid e2
    rw [hv']
    clear e1 e2 hv hv'
    go_wp2
    refine bodyPost_ret (v := .tuple #[.agg #[.string ⟨#[]⟩, .slice none 0 0], .int .i64 6]) (by simp [results, Try.results81, go_sem, hz0, hz1, hz2, r0, r1]) rfl ⟨_, by rw [E2.out], by rw [E1.out]; exact ownT_zero _ _ _, ?_⟩
    (repeat (first | with_reducible exact Touch.refl _ _ _ | with_reducible exact htc | (with_reducible refine Touch.setCell ?_ ?_ _; rotate_left; · (simp only; omega)) | (with_reducible refine Touch.setNew ?_ ?_ _; rotate_left; · (first | (simp only; omega) | (simp; done) | (simp; omega))) | with_reducible refine Touch.alloc ?_ _ | with_reducible refine Touch.drewN ?_ _ | with_reducible refine Touch.drew ?_))

end Go.Proofs.Ytemmnjokojgjaaa
/- Arranging: what it answers. Plain. -/
set_option linter.unusedSimpArgs false
set_option linter.unnecessarySimpa false
set_option linter.unusedVariables false
set_option maxRecDepth 100000
namespace Go.Proofs.Ytemmnjokojgjaaa
open Go.RowKit

theorem tones_of_stc {d : List Ton} (h : Stc d) (ho : ∀ y ∈ d, TonOk y) : TonesOk d := by
  intro k hk hk2
  refine ⟨ho _ (List.getElem_mem hk), fun h0 => ?_⟩
  unfold Stc at h
  rw [List.pairwise_iff_getElem] at h
  exact h (k - 1) k (by omega) hk (by omega)
theorem dst_perm {a b : List Ton} (p : a.Perm b) (h : Dst b) : Dst a := by
  unfold Dst at *
  exact (p.pairwise_iff (fun hxy e => hxy ⟨e.1.symm, e.2.symm⟩)).2 h
theorem ar_stc {d : List Ton} (h : Srt d) (hd : Dst d) : Stc d := by
  unfold Srt at h
  unfold Dst at hd
  unfold Stc
  rw [List.pairwise_iff_getElem] at *
  intro i j hi hj hij
  have h1 := h i j hi hj hij
  have h2 := hd i j hi hj hij
  unfold leT before at h1
  unfold before
  omega
/-- The tones that are kept, in order, are a tune. -/
theorem ar_valid {x : TunD} {ns : List Int} {b : Int} (hx : validTunB x = true) (hs : SetIn ns) {d : List Ton} (p : d.Perm (arTo ns b x.tones x.tones.length).1) (s : Srt d) : validTunB ⟨x.name, d⟩ = true := by
  have ht : ∀ y ∈ x.tones, TonOk y := fun y hy => by obtain ⟨k, hk, rfl⟩ := List.getElem_of_mem hy; exact tun_tone hx hk
  have h := ar_ok (b := b) hs ht x.tones.length
  have hl := tun_len hx
  have hle := h.le
  refine validTunB_iff.2 ⟨(validTunB_iff.1 hx).name, ?_, tones_of_stc (ar_stc s (dst_perm p h.dst)) (fun y hy => h.ok y (p.mem_iff.1 hy))⟩
  have := p.length_eq
  simp only at this ⊢
  omega
noncomputable def arK (x : TunD) (ns : List Int) (b : Int) : List Ton := (arTo ns b x.tones x.tones.length).1
noncomputable def arM (x : TunD) (ns : List Int) (b : Int) : Int := mvCnt (arTo ns b x.tones x.tones.length).2 (arTo ns b x.tones x.tones.length).1.length
noncomputable def arD (x : TunD) (ns : List Int) (b : Int) : Int := (x.tones.length : Int) - (arTo ns b x.tones x.tones.length).1.length
noncomputable def arT (x : TunD) (ns : List Int) (b : Int) : TunD := toV x.name (arK x ns b)
theorem ar_bd {x : TunD} {ns : List Int} {b : Int} (hx : validTunB x = true) (hs : SetIn ns) : 0 ≤ arM x ns b ∧ arM x ns b ≤ 128 ∧ 0 ≤ arD x ns b ∧ arD x ns b ≤ 128 := by
  have ht : ∀ y ∈ x.tones, TonOk y := fun y hy => by obtain ⟨k, hk, rfl⟩ := List.getElem_of_mem hy; exact tun_tone hx hk
  have h := ar_ok (b := b) hs ht x.tones.length
  have hl := tun_len hx
  have hle := h.le
  have := mv_bd (arTo ns b x.tones x.tones.length).2 (arTo ns b x.tones x.tones.length).1.length
  unfold arM arD
  omega
theorem toV_len (n : ByteArray) (d : List Ton) : (toV n d).tones.length ≤ d.length := by
  unfold toV; split
  · have := (sortT_perm d).length_eq; simp only; omega
  · simp
/-- What ArrangeTune answers. -/
noncomputable def atV (x : TunD) (ns : List Int) (b : Int) : TunD := if askC x ns b = 0 then arT x ns b else ⟨.empty, []⟩
noncomputable def atM (x : TunD) (ns : List Int) (b : Int) : Int := if askC x ns b = 0 then arM x ns b else 0
noncomputable def atD (x : TunD) (ns : List Int) (b : Int) : Int := if askC x ns b = 0 then arD x ns b else 0
theorem at_no {x : TunD} {ns : List Int} {b : Int} (h : ¬ askC x ns b = 0) : atV x ns b = ⟨.empty, []⟩ ∧ atM x ns b = 0 ∧ atD x ns b = 0 := ⟨if_neg h, if_neg h, if_neg h⟩
theorem at_yes {x : TunD} {ns : List Int} {b : Int} (h : askC x ns b = 0) : atV x ns b = arT x ns b ∧ atM x ns b = arM x ns b ∧ atD x ns b = arD x ns b := ⟨if_pos h, if_pos h, if_pos h⟩
theorem at_len (x : TunD) (ns : List Int) (b : Int) : (atV x ns b).tones.length ≤ 1048576 := by
  unfold atV; split
  · rename_i h
    obtain ⟨hx, hs, _⟩ := ask_zero.1 h
    have ht : ∀ y ∈ x.tones, TonOk y := fun y hy => by obtain ⟨k, hk, rfl⟩ := List.getElem_of_mem hy; exact tun_tone hx hk
    have h1 := ar_ok (b := b) (set_in hs) ht x.tones.length
    have hl := tun_len hx
    have := toV_len x.name (arK x ns b)
    have h2 := h1.le
    unfold arK at this
    unfold arT arK
    omega
  · simp
/-- The cost of a shift. -/
noncomputable def arC (x : TunD) (ns : List Int) (b : Int) : Int := arM x ns b + 10 * arD x ns b
noncomputable def acoV (x : TunD) (ns : List Int) (b : Int) : Int := if askC x ns b = 0 then arC x ns b else 0
end Go.Proofs.Ytemmnjokojgjaaa
