import Derived.Test.YtenedpboehkmjaaGreatSpZ20
/- The reference's search for a plan: contract of run. -/
set_option linter.unusedSimpArgs false
set_option linter.unnecessarySimpa false
set_option linter.unusedVariables false
set_option maxRecDepth 100000
namespace Go.Proofs.YtenedpboehkmjaaGreat
open Go.RowKit

def SO (w1 : World) (p0 : Nat) (vm vp vg vr : Value) (budget : Nat) (total : Int) (st : List Int) (sum : Int) (best : Value) (cnt : Int) (left : Nat) (sp : Bool) (w : World) : Prop :=
  ∃ a c, Box w p0 (fS vm vp vg vr budget total (.slice a st.length c) sum best cnt left sp) ∧ w.ownsRow w1.heap.size 2 1 (.slice a st.length c) st.length (st.map (Value.int .i64)) ∧ Two p0 p0 w1 w
theorem SO.mono {w1 w w' : World} {p0 : Nat} {vm vp vg vr : Value} {budget : Nat} {total : Int} {st : List Int} {sum : Int} {best : Value} {cnt : Int} {left : Nat} {sp : Bool} (h : SO w1 p0 vm vp vg vr budget total st sum best cnt left sp w) (hb : Below w.heap.size w w') : SO w1 p0 vm vp vg vr budget total st sum best cnt left sp w' := by
  obtain ⟨a, c, h1, h2, h3⟩ := h
  exact ⟨a, c, h1.mono hb, owns_mono h2 hb, h3.step hb h3.size⟩
theorem Two.of_touch {p : Nat} {w w' : World} (t : Touch p (p + 1) w w') : Two p p w w' :=
  ⟨t.os, t.tape, t.output, t.size, fun k hk hp _ => t.block k hk (by omega)⟩
/-- What a search of the reference leaves. -/
def RunS (w1 : World) (p0 : Nat) (vm vp vg vr : Value) (budget : Nat) (total : Int) (st : List Int) (r : PRes) (e : Ending) (w' : World) : Prop :=
  e = .returned (.bool r.found) ∧ ∃ vb cnt, SO w1 p0 vm vp vg vr budget total st (sumL st) vb cnt r.left r.spent w' ∧ (r.found = false → vb = .slice none 0 0 ∧ cnt = 0) ∧ (r.found = true → Ints w' vb r.st ∧ Off vb p0 p0)
theorem owns_takeS {w : World} {base n k cap : Nat} {e : TypeId} {a : Option Addr} {xs : List Value} (h : w.ownsRow base e 1 (.slice a n cap) n xs) (hk : k ≤ n) : w.ownsRow base e 1 (.slice a k cap) k (xs.take k) := by
  obtain ⟨hl, h⟩ := h
  refine ⟨by rw [List.length_take]; omega, ?_⟩
  rcases h with ⟨h1, h2⟩ | ⟨g, c, cur, h1, h2, h3, h4, h5, h6, h7⟩
  · cases h1
    exact .inl ⟨by congr 1; omega, by omega⟩
  · cases h1
    refine .inr ⟨g, cap, cur, rfl, h2, h3, by omega, h5, h6, ?_⟩
    rw [← h7, List.take_take]
    congr 1
    omega

theorem SO.back {w1 w : World} {p0 : Nat} {vm vp vg vr : Value} {budget : Nat} {total : Int} {st : List Int} {n s' : Int} {best : Value} {cnt : Int} {left : Nat} {sp : Bool} {a : Option Addr} {c : Nat} (hB : Box w p0 (fS vm vp vg vr budget total (.slice a (st.length + 1) c) s' best cnt left sp)) (ho : w.ownsRow w1.heap.size 2 1 (.slice a (st.length + 1) c) (st.length + 1) ((st ++ [n]).map (Value.int .i64))) (ht : Two p0 p0 w1 w) (hp : p0 < w1.heap.size) (s : Int) :
    SO w1 p0 vm vp vg vr budget total st s best cnt left sp ((w.setCell ⟨p0, 4, none⟩ (.slice a st.length c)).setCell ⟨p0, 6, none⟩ (.int .i64 s)) := by
  have t2 := ((Two.refl p0 p0 w).setCell (a := ⟨p0, 4, none⟩) (.inl rfl) (.slice a st.length c)).setCell (a := ⟨p0, 6, none⟩) (.inl rfl) (.int .i64 s)
  have h2 := owns_takeS ho (Nat.le_succ st.length)
  rw [List.map_append, List.take_left' (by simp)] at h2
  refine ⟨a, c, ?_, owns_two h2 t2 (off_owns h2 hp hp), ht.trans t2⟩
  exact (hB.set (.slice a st.length c) (j := 4) (by simp [fS])).set (.int .i64 s) (j := 6) (by simp [fS])
set_option maxHeartbeats 8000000 in
theorem run_any (w0 w1 : World) (p0 q o : Nat) (x : ModD) (q2 o2 : Nat) (p : PrfD) (q3 o3 : Nat) (g : GoalD) (vr : Value) (lim : List Int) (budget : Nat) (total : Int) (hE : EnvS w0 q o x q2 o2 p q3 o3 g) (h0 : w0.heap.size = p0) (h01 : Below p0 w0 w1) (hp1 : p0 < w1.heap.size) (hr : Ints w1 vr lim) (hof : Off vr p0 p0) (hlim : lim = limL p x.zones g.most) (ht0 : 0 ≤ total) (ht1 : total ≤ 1000) (hbud : budget ≤ 20000) :
    ∀ (d : Nat) (st : List Int) (left : Nat) (w : World), st.length + d = lim.length → stIn lim st → left ≤ budget → SO w1 p0 (ptr q o) (ptr q2 o2) (ptr q3 o3) vr budget total st (sumL st) (.slice none 0 0) 0 left false w →
    Calls Tryz.prog 22 #[ptr p0 0] w fun e w' => RunS w1 p0 (ptr q o) (ptr q2 o2) (ptr q3 o3) vr budget total st (runP lim (lowP x p g) (planP x p g) total d st left) e w' := by
  have HE := Lib.hid hE
  have H0 := Lib.hid h0
  have H01 := Lib.hid h01
  have HR := Lib.hid hr
  have HOF := Lib.hid hof
  have hll : lim.length = x.zones.length := by rw [hlim]; exact limL_len
  have HLL := Lib.hid hll
  have hN8 : lim.length ≤ 8 := by rw [hll]; exact hE.zo.1.2
  have HLB := Lib.hid (show ∀ i, i < lim.length → 0 ≤ lim.getD i 0 ∧ lim.getD i 0 ≤ 20 from fun i hi => by
    rw [hlim, limL_at (by omega)]; have := limAt_bd (x := p) (zs := x.zones) (k := i) hE.okg.2.2.1; omega)
  have HRM := Lib.hid (show ∀ s, stIn lim s → inRoom p x.zones (stF s) from fun s h => stIn_room (by rw [← hlim]; exact h) hE.okg.2.2.1)
  obtain ⟨ar, cr, rfl, _⟩ := id hr
  obtain ⟨b9, o9, rfl, _⟩ := hr.cells (by rw [List.length_map, hll]; have := hE.zo.1.1; omega)
  obtain ⟨low, hlow⟩ : ∃ low, low = lowP x p g := ⟨_, rfl⟩
  obtain ⟨plan, hplan⟩ : ∃ plan, plan = planP x p g := ⟨_, rfl⟩
  have HLOW := Lib.hid hlow; have HPLAN := Lib.hid hplan
  have hq3 : p0 ≠ q3 := by have := hE.ig.snd.lt; omega
  rw [← hlow, ← hplan]
  clear hE h0 h01 hr hof hlim hll hlow hplan
  intro d
  induction d with
  | zero =>
    intro st left w hlen hin hleft hP
    have HP := Lib.hid hP
    obtain ⟨a, c, hB, hown, htwo⟩ := id hP
    have hE1 := HE.out.mono (by rw [H0.out]; exact htwo.below H01.out (Nat.le_refl _) (Nat.le_refl _) (Nat.le_of_lt hp1))
    have hoff := off_owns hown hp1 hp1
    have hI : Ints w (.slice a st.length c) st := Sl.of_owns hown
    have c0 := hB.at' 0 _ rfl
    have c1 := hB.at' 1 _ rfl
    have c3 := hB.at' 3 _ rfl
    have c4 := hB.at' 4 _ rfl
    have l0 := hB.lt
    have d0 : ((st.length : Int) == (lim.length : Int)) = true := by rw [beq_iff_eq]; omega
    have HB := Lib.hid hB; have HO := Lib.hid hown; have HT := Lib.hid htwo; have HE1 := Lib.hid hE1; have HI := Lib.hid hI; have HF := Lib.hid hoff
    have HC0 := Lib.hid c0; have HC1 := Lib.hid c1; have HC4 := Lib.hid c4
    have HIN := Lib.hid (HRM.out st hin)
    have hst8 : st.length ≤ 8 := by omega
    have hstz : st.length ≤ x.zones.length := by have := HLL.out; omega
    clear hlen hown hB hP htwo hE1 hI hoff c0 c1 hin
    unfold ptr
    go_enter Tryz.func22, Tryz.ntmps22
    go_wp2_with fail
    refine (raw_any p0 q o x q2 o2 p q3 o3 g st _ HE1.out HC0.out HC1.out HC4.out HI.out hstz HIN.out).mono ?_
    rintro e w2 ⟨v2, rfl, ho2, hb2⟩
    have HR2 := Lib.hid (show Ints w2 v2 (rawS x p st) from ho2.rd)
    obtain ⟨a2, c2, rfl⟩ := ho2.form
    have HB2 := Lib.hid hb2
    clear ho2 hb2
    go_wp2_with fail
    refine (done_any p0 q o x q2 o2 p q3 o3 g st _ budget total (sumL st) left _ _ (HE1.out.mono HB2.out) (HB.out.mono HB2.out) (Ints.mono HI.out HB2.out) HR2.out hst8 hq3 HF.out).mono ?_
    rintro e w3 ⟨hyes, hno⟩
    rw [← HPLAN.out] at hyes hno
    by_cases hpl : plan st
    · obtain ⟨vb, rfl, hB3, hI3, hge, ht3⟩ := hyes hpl
      have E := Lib.hid (show runP lim low plan total 0 st left = ⟨true, st, left, false⟩ from runP_yes hpl)
      have h2 := Two.of_touch ht3
      have HX := Lib.hid (show SO w1 p0 (ptr q o) (ptr q2 o2) (ptr q3 o3) (.slice (some ⟨b9, o9, none⟩) lim.length cr) budget total st (sumL st) vb 1 left false w3 from ⟨a, c, hB3, owns_two (owns_mono HO.out HB2.out) h2 HF.out, (HT.out.step HB2.out HT.out.size).trans h2⟩)
      have HI3 := Lib.hid hI3
      have HOV := Lib.hid (show Off vb p0 p0 from ⟨fun e => by have := hge p0 e; have h5 := (HB.out.mono HB2.out).lt; omega, fun e => by have := hge p0 e; have h5 := (HB.out.mono HB2.out).lt; omega⟩)
      clear hyes hno hB3 hI3 hge ht3 h2 hpl
      go_wp2
      go_ret
      rw [E.out]
      exact ⟨rfl, vb, 1, HX.out, (fun h => by cases h), fun _ => ⟨HI3.out, HOV.out⟩⟩
    · obtain ⟨rfl, hb3⟩ := hno hpl
      have E := Lib.hid (show runP lim low plan total 0 st left = ⟨false, st, left, false⟩ from runP_no hpl)
      have HX := Lib.hid ((HP.out.mono HB2.out).mono hb3)
      clear hyes hno hpl hb3
      go_wp2
      go_ret
      rw [E.out]
      exact ⟨rfl, _, 0, HX.out, fun _ => ⟨rfl, rfl⟩, (fun h => by cases h)⟩
  | succ d ih =>
    intro st left w hlen hin hleft hP
    obtain ⟨R, hR⟩ : ∃ R, R = runP lim low plan total (d + 1) st left := ⟨_, rfl⟩
    obtain ⟨L, hL⟩ : ∃ L : Nat, lim.getD st.length 0 = (L : Int) := Int.eq_ofNat_of_zero_le (HLB.out st.length (by omega)).1
    have hL20 : L ≤ 20 := by have := (HLB.out st.length (by omega)).2; omega
    have HLz := Lib.hid hL
    have HR0 := Lib.hid (show tryP (runP lim low plan total d) (isTry lim total st) low st (L + 1) 0 left = R by rw [hR, show runP lim low plan total (d + 1) st left = tryP (runP lim low plan total d) (isTry lim total st) low st ((lim.getD st.length 0).toNat + 1) 0 left from rfl, HLz.out, Int.toNat_natCast])
    rw [← hR]
    clear hR hL
    obtain ⟨a, c, hB, hown, htwo⟩ := id hP
    have c3 := hB.at' 3 _ rfl
    have c4 := hB.at' 4 _ rfl
    have l0 := hB.lt
    have d0 : ((st.length : Int) == (lim.length : Int)) = false := beq_eq_false_iff_ne.2 (by omega)
    have hk2 : st.length < lim.length := by omega
    have HL := Lib.hid hlen
    have HIN0 := Lib.hid hin
    have HSB := Lib.hid (show 0 ≤ sumL st ∧ sumL st ≤ 160 from by
      have h1 := sumL_bd (xs := st) (fun i hi => ⟨(hin i hi).1, Int.le_trans (hin i hi).2 (HLB.out i (by omega)).2⟩) st.length (Nat.le_refl _)
      rw [List.take_length] at h1
      omega)
    clear hlen hown hin htwo
    unfold ptr
    go_enter Tryz.func22, Tryz.ntmps22
    go_wp2_with fail
    clear c3 c4 l0 hB
    go_loopw [4, 5, 6, 7, 8] (fun i _ _ _ _ wr => ∃ (j left' : Nat) (sp : Bool), j ≤ L + 1 ∧ i = .int .i64 (j : Int) ∧ left' ≤ left ∧ (sp = false → tryP (runP lim low plan total d) (isTry lim total st) low st (L + 1 - j) j left' = R) ∧ (sp = true → left' = 0 ∧ R = ⟨false, st, 0, true⟩) ∧ SO w1 p0 (ptr q o) (ptr q2 o2) (ptr q3 o3) (.slice (some ⟨b9, o9, none⟩) lim.length cr) budget total st (sumL st) (.slice none 0 0) 0 left' sp wr) (fun i _ _ _ _ _ => L + 1 - (intOf i).toNat)
    case atStart => exact ⟨0, left, false, Nat.zero_le _, by go_num, Nat.le_refl _, fun _ => HR0.out, (fun h => by cases h), hP⟩
    case round =>
      obtain ⟨j, left', sp, hj, rfl, hleft', ht', hs', hPr⟩ := hrel
      have ht := Lib.hid ht'; have hs := Lib.hid hs'; have HP := Lib.hid hPr
      clear ht' hs' hP
      obtain ⟨a2, cap2, hB, hown, htwo⟩ := hPr
      have c3 := hB.at' 3 _ rfl
      have l0 := hB.lt
      obtain ⟨_, _, e9, cl⟩ := (HR.out.two htwo HOF.out).cells (by simp; omega)
      cases e9
      have d9 := cl st.length (.int .i64 (L : Int)) (by
        rw [List.getElem?_map, List.getElem?_eq_getElem hk2]
        have := HLz.out
        rw [List.getD_eq_getElem?_getD, List.getElem?_eq_getElem hk2] at this
        simp only [Option.getD_some] at this
        rw [this]; rfl)
      have i9 : (st.length : Int) < (lim.length : Int) := by omega
      clear cl
      by_cases hlt : j ≤ L
      · have hltI : (j : Int) ≤ (L : Int) := by omega
        have hn1 : L + 1 - j = L + 1 - (j + 1) + 1 := by omega
        have c5 := hB.at' 5 _ rfl
        have c6 := hB.at' 6 _ rfl
        have hsb := HSB.out
        have w1' : IntKind.i64.wrap (sumL st + (j : Int)) = sumL st + (j : Int) := IntWalk.i64_in _ (by omega)
        have w2' : IntKind.i64.wrap ((lim.length : Int) - 1) = (lim.length : Int) - 1 := IntWalk.i64_in _ (by omega)
        have w3' : IntKind.i64.wrap ((j : Int) + 1) = (j : Int) + 1 := IntWalk.i64_in _ (by omega)
        clear hB hown htwo
        by_cases htr : isTry lim total st j
        · have HTR := Lib.hid htr
          have e1 : decide (total < sumL st + (j : Int)) = false := decide_eq_false (by have := htr.1; omega)
          by_cases hz : st.length + 1 < lim.length
          · have e2 : ((st.length : Int) == (lim.length : Int) - 1) = false := beq_eq_false_iff_ne.2 (by omega)
            clear htr hsb hz
            go_wp2_with fail
            go_quiet (fail)
            have hP2 := HP.out.mono (Below.drawN nq)
            obtain ⟨w2, hw2⟩ : ∃ w2, w2 = wr.drewN nq := ⟨_, rfl⟩
            rw [← hw2] at hP2 ⊢
            clear hw2 c3 c5 c6 l0 d9
            obtain ⟨a3, cap3, hB3, ho3, ht3⟩ := hP2
            obtain ⟨nd, hnd⟩ : ∃ nd, nd = budget - left' := ⟨_, rfl⟩
            have hB3' : Box w2 p0 [ptr q o, ptr q2 o2, ptr q3 o3, .slice (some ⟨b9, o9, none⟩) lim.length cr, .slice a3 st.length cap3, .int .i64 total, .int .i64 (sumL st), .bool false, .bool false, .slice none 0 0, .int .i64 (-1), .int .i64 0, .int .i64 (nd : Int), .int .i64 (budget : Int), .bool sp] := by rw [hnd]; exact hB3
            have c12 := hB3'.at' 12 _ rfl
            have c13 := hB3'.at' 13 _ rfl
            have c14 := hB3'.at' 14 _ rfl
            have f12 := hB3'.fr 12
            have f14 := hB3'.fr 14
            have l0 := hB3'.lt
            have HND := Lib.hid hnd
            clear hnd
            rcases left' with _ | m
            · have E := Lib.hid (show R = ⟨false, st, 0, true⟩ by
                cases sp
                · rw [← ht.out rfl, hn1, tryP_spent HTR.out rfl]
                · exact (hs.out rfl).2)
              have d2 : ((nd : Int) == (budget : Int)) = true := by have := HND.out; rw [beq_iff_eq]; omega
              have q1 := hB3.set (.bool true) (j := 14) (by simp [fS])
              have q2' := (Two.refl p0 p0 w2).setCell (a := ⟨p0, 14, none⟩) (.inl rfl) (.bool true)
              have HX := Lib.hid (show SO w1 p0 (ptr q o) (ptr q2 o2) (ptr q3 o3) (.slice (some ⟨b9, o9, none⟩) lim.length cr) budget total st (sumL st) (.slice none 0 0) 0 0 true (w2.setCell ⟨p0, 14, none⟩ (.bool true)) from ⟨a3, cap3, q1, owns_two ho3 q2' (off_owns ho3 hp1 hp1), ht3.trans q2'⟩)
              clear q1 q2' hB3 ho3 ht3 hB3'
              go_wp2
              go_quiet (fail)
              go_wp2
              go_ret
              rw [E.out]
              exact ⟨rfl, _, 0, HX.out.mono (Below.drawN _), fun _ => ⟨rfl, rfl⟩, (fun h => by cases h)⟩
            · have d2 : ((nd : Int) == (budget : Int)) = false := beq_eq_false_iff_ne.2 (by have := HND.out; omega)
              have hsp : sp = false := by
                cases sp
                · rfl
                · exact absurd (hs.out rfl).1 (by omega)
              subst hsp
              have HT := Lib.hid (show tryP (runP lim low plan total d) (isTry lim total st) low st (L + 1 - (j + 1) + 1) j (m + 1) = R by rw [← hn1]; exact ht.out rfl)
              go_wp2
              go_quiet (fail)
              have hP3 := SO.mono (show SO w1 p0 (ptr q o) (ptr q2 o2) (ptr q3 o3) (.slice (some ⟨b9, o9, none⟩) lim.length cr) budget total st (sumL st) (.slice none 0 0) 0 (m + 1) false w2 from ⟨a3, cap3, hB3, ho3, ht3⟩) (Below.drawN nq)
              obtain ⟨w3, hw3⟩ : ∃ w3, w3 = w2.drewN nq := ⟨_, rfl⟩
              rw [← hw3] at hP3 ⊢
              clear hw3 c12 c13 c14 f12 f14 l0 hB3 ho3 ht3 hB3' d2
              obtain ⟨a3, cap3, hB3, ho3, ht3⟩ := hP3
              have hB3' : Box w3 p0 [ptr q o, ptr q2 o2, ptr q3 o3, .slice (some ⟨b9, o9, none⟩) lim.length cr, .slice a3 st.length cap3, .int .i64 total, .int .i64 (sumL st), .bool false, .bool false, .slice none 0 0, .int .i64 (-1), .int .i64 0, .int .i64 (nd : Int), .int .i64 (budget : Int), .bool false] := by rw [HND.out]; exact hB3
              have c4 := hB3'.at' 4 _ rfl
              have c12 := hB3'.at' 12 _ rfl
              have c14 := hB3'.at' 14 _ rfl
              have f12 := hB3'.fr 12
              have l3 := hB3'.lt
              have n20 : nd ≤ 20000 := by have := HND.out; omega
              have s1 := hB3'.set (.int .i64 ((nd : Int) + 1)) (j := 12) (by simp)
              have s3 := (Two.refl p0 p0 w3).setCell (a := ⟨p0, 12, none⟩) (.inl rfl) (.int .i64 ((nd : Int) + 1))
              have S1 := Lib.hid (show Box (w3.setCell ⟨p0, 12, none⟩ (.int .i64 ((nd : Int) + 1))) p0 (fS (ptr q o) (ptr q2 o2) (ptr q3 o3) (.slice (some ⟨b9, o9, none⟩) lim.length cr) budget total (.slice a3 st.length cap3) (sumL st) (.slice none 0 0) 0 m false) by
                have e : (((budget - m : Nat)) : Int) = (nd : Int) + 1 := by have := HND.out; omega
                unfold fS; rw [e]; exact s1)
              have S2 := Lib.hid (owns_two ho3 s3 (off_owns ho3 hp1 hp1))
              have S3 := Lib.hid (ht3.trans s3)
              have hz3 := S3.out.size
              clear s1 s3 hB3 ho3 ht3 hB3'
              go_wp2_with (at_builtin; refine append_one_at rfl _ _ 22 rfl w1.heap.size 2 (.int .i64 0) 1 8 Tryz.underlying22 info_int rfl (by decide) _ st.length _ rfl S2.out [.int .i64 (j : Int)] rfl (by simp [Value.oneCell']) w3.heap.size (by simp) rfl (by omega) (by decide) (by simpa using hz3) ?_)
              intro a4 k4 w4 ho4 hg4 hb4 _
              have hB4 := S1.out.step hb4 hp1
              have ht4 := S3.out.step hb4 (Nat.le_refl _)
              clear hg4 c4 c12 c14 f12 l3 hz3
              have c4 := hB4.at' 4 _ rfl
              have c6 := hB4.at' 6 _ rfl
              have c8 := hB4.at' 8 _ rfl
              have f4 := hB4.fr 4
              have f6 := hB4.fr 6
              have l4 := hB4.lt
              have q1 := (hB4.set (.slice a4 (st.length + 1) k4) (j := 4) (by simp [fS])).set (.int .i64 (sumL st + (j : Int))) (j := 6) (by simp [fS])
              have qq3 := ((Two.refl p0 p0 w4).setCell (a := ⟨p0, 4, none⟩) (.inl rfl) (.slice a4 (st.length + 1) k4)).setCell (a := ⟨p0, 6, none⟩) (.inl rfl) (.int .i64 (sumL st + (j : Int)))
              have HB5 := Lib.hid (show Box ((w4.setCell ⟨p0, 4, none⟩ (.slice a4 (st.length + 1) k4)).setCell ⟨p0, 6, none⟩ (.int .i64 (sumL st + (j : Int)))) p0 (fS (ptr q o) (ptr q2 o2) (ptr q3 o3) (.slice (some ⟨b9, o9, none⟩) lim.length cr) budget total (.slice a4 (st.length + 1) k4) (sumL st + (j : Int)) (.slice none 0 0) 0 m false) from q1)
              have HO5 := Lib.hid (owns_two ho4 qq3 (off_owns ho4 hp1 hp1))
              have HT5 := Lib.hid (ht4.trans qq3)
              clear hB4 ho4 hb4 ht4 q1 qq3
              go_wp2_with fail
              obtain ⟨w5, hw5⟩ : ∃ w5, w5 = (w4.setCell ⟨p0, 4, none⟩ (.slice a4 (st.length + 1) k4)).setCell ⟨p0, 6, none⟩ (.int .i64 (sumL st + (j : Int))) := ⟨_, rfl⟩
              rw [← hw5] at HB5 HO5 HT5 ⊢
              clear hw5 c4 c6 c8 f4 f6 l4
              have hE5 := HE.out.mono (by rw [H0.out]; exact HT5.out.below H01.out (Nat.le_refl _) (Nat.le_refl _) (Nat.le_of_lt hp1))
              obtain ⟨st', hst'⟩ : ∃ st', st' = st ++ [(j : Int)] := ⟨_, rfl⟩
              have hl' : st'.length = st.length + 1 := by rw [hst']; simp
              have hmp : st.map (Value.int .i64) ++ [.int .i64 (j : Int)] = st'.map (Value.int .i64) := by rw [hst']; simp
              rw [hmp] at HO5
              have HST := Lib.hid hst'
              have HL' := Lib.hid hl'
              have hI5 : Ints w5 (.slice a4 st'.length k4) st' := by rw [HL'.out]; have := Sl.of_owns HO5.out; rw [← HL'.out] at this ⊢; exact this
              have HIN5 := Lib.hid (show stIn lim st' by rw [HST.out]; exact stIn_snoc HIN0.out (by rw [HLz.out]; omega))
              have hc0 := HB5.out.at' 0 _ rfl
              have hc1 := HB5.out.at' 1 _ rfl
              have hc4 : w5.cell? ⟨p0, 4, none⟩ = some (.slice a4 st'.length k4) := by rw [HL'.out]; exact HB5.out.at' 4 _ rfl
              clear hmp hst' hl'
              refine (raw_any p0 q o x q2 o2 p q3 o3 g st' _ hE5 hc0 hc1 hc4 hI5 (by rw [HL'.out]; have := HLL.out; omega) (HRM.out _ HIN5.out)).mono ?_
              rintro e w6 ⟨v6, rfl, ho6, hb6⟩
              have HI6 := Lib.hid (show Ints w6 v6 (rawS x p st') from ho6.rd)
              have HRL := Lib.hid (rawS_len x p st')
              obtain ⟨a6, k6, rfl⟩ := ho6.form
              have hE6 := hE5.mono hb6
              have HE6 := Lib.hid hE6
              have HB6 := Lib.hid (HB5.out.mono hb6)
              have HO6 := Lib.hid (owns_mono HO5.out hb6)
              have HT6 := Lib.hid (HT5.out.step hb6 HT5.out.size)
              clear ho6 hb6 hE5 hE6 hc0 hc1 hc4 hI5 HB5 HO5 HT5
              go_wp2_with fail
              go_loopw [5, 7] (fun lv kv wi => ∃ k : Nat, k ≤ 5 ∧ kv = .int .i64 (k : Int) ∧ lv = .bool (lowK x p g st' k) ∧ Below w6.heap.size w6 wi) (fun _ kv _ => 5 - (intOf kv).toNat)
              case atStart => exact ⟨0, Nat.zero_le _, by go_num, rfl, Below.refl _ _⟩
              case round =>
                obtain ⟨k, hk, rfl, rfl, hbk⟩ := hrel
                have HBK := Lib.hid hbk
                have hzk := hbk.size
                have hB7 := HB6.out.mono hbk
                have c2 : wr.cell? ⟨p0, 2, none⟩ = some (.pointer (some ⟨q3, o3, none⟩)) := hB7.at' 2 _ rfl
                have l0 := hB7.lt
                by_cases hk5 : k < 5
                · have hk5I : (k : Int) < 5 := by omega
                  have hkr : k < (rawS x p st').length := by rw [HRL.out]; exact hk5
                  have hkrI : (k : Int) < ((rawS x p st').length : Int) := by omega
                  obtain ⟨b8, o8, rfl, c8⟩ := (Ints.mono HI6.out hbk).cells (by rw [List.length_map, HRL.out]; omega)
                  have d8 := c8 k (.int .i64 ((rawS x p st').getD k 0)) (by rw [List.getElem?_map, List.getElem?_eq_getElem hkr, List.getD_eq_getElem?_getD, List.getElem?_eq_getElem hkr]; rfl)
                  obtain ⟨f, hf⟩ : ∃ f, f = (rawS x p st').getD k 0 := ⟨_, rfl⟩
                  rw [← hf] at d8
                  have lb8 := World.block_lt_of_cell? _ _ d8
                  simp only at lb8
                  have HKN := Lib.hid (show lowK x p g st' (k + 1) = (lowK x p g st' k || lowB g k f) by rw [hf]; rfl)
                  obtain ⟨bk, hbk2⟩ : ∃ bk, bk = lowK x p g st' k := ⟨_, rfl⟩
                  rw [← hbk2] at HKN ⊢
                  have hkw : IntKind.i64.wrap ((k : Int) + 1) = (k : Int) + 1 := IntWalk.i64_in _ (by omega)
                  clear c8 hf hbk2 hbk hB7
                  cases bk
                  · obtain ⟨bl, hbl⟩ : ∃ bl, bl = lowB g k f := ⟨_, rfl⟩
                    have HBL := Lib.hid hbl
                    clear hbl
                    go_wp2_with fail
                    refine wp_region_ord [(0, true), (1, true), (2, true), (3, true), (4, true), (5, true), (6, true), (7, true), (8, true), (9, true), (10, true), (11, false), (12, true), (13, true)] (none) (by kernel_rfl) (by kernel_rfl) ?_
                    (repeat (with_reducible refine wpOrd_soft (fun K hK => ?_); simp only [List.getElem?_toArray, List.getElem?_cons_zero, List.getElem?_cons_succ]; first | (go_simp; refine hK _ ?_) | (simp only [undef]; go_simp; refine hK _ ?_); clear hK K))
                    (with_reducible refine wpOrd_hard ?_; simp only [List.getElem?_toArray, List.getElem?_cons_zero, List.getElem?_cons_succ])
                    go_wp2_with fail
                    refine (l10Low_any bl q3 o3 g k f _ ((HE6.out.ig.mono HBK.out).mono (Below.refl _ _).drew) HE6.out.okg hk5 HBL.out).mono ?_
                    rintro e w8 ⟨rfl, hb8⟩
                    have hb8 : Below wr.heap.size wr w8 := undrew hb8
                    go_wp2_with fail
                    refine ⟨grown_of_below hb8, ?_⟩
                    (repeat (with_reducible refine wpOrd_soft (fun K hK => ?_); simp only [List.getElem?_toArray, List.getElem?_cons_zero, List.getElem?_cons_succ]; first | (go_simp; refine hK _ ?_) | (simp only [undef]; go_simp; refine hK _ ?_); clear hK K))
                    (with_reducible refine wpOrd_nil ?_); refine NoPanic.normal ?_
                    have HB8 := Lib.hid (HBK.out.trans (hb8.mono hzk))
                    clear hb8 c2 l0 d8
                    go_wp2
                    go_roundw
                    case rel => exact ⟨k + 1, by omega, by go_num, by rw [HKN.out, ← HBL.out, Bool.false_or], HB8.out⟩
                    case measure => simp [intOf]; omega
                  · go_wp2_with fail
                    go_quiet (fail)
                    clear c2 l0 d8
                    go_wp2
                    go_roundw
                    case rel => exact ⟨k + 1, by omega, by go_num, by rw [HKN.out, Bool.true_or], HBK.out.trans ((Below.drawN _).mono hzk)⟩
                    case measure => simp [intOf]; omega
                · obtain rfl : k = 5 := by omega
                  have hO7 := owns_mono HO6.out hbk
                  have hT7 := HT6.out.step hbk HT6.out.size
                  have c4 := hB7.at' 4 _ rfl
                  have c6 := hB7.at' 6 _ rfl
                  have f4 := hB7.fr 4
                  have f6 := hB7.fr 6
                  obtain ⟨_, _, e7, hca7, hcm7, _⟩ := Sl.of_owns hO7
                  cases e7
                  have i7 : st.length ≤ k4 := by omega
                  unfold maxLen at hcm7
                  have hsb := HSB.out
                  have w4' : IntKind.i64.wrap (sumL st + (j : Int) - (j : Int)) = sumL st := by rw [Int.add_sub_cancel]; exact IntWalk.i64_in _ (by omega)
                  clear hbk
                  cases hlk : lowK x p g st' 5
                  · have hnl : ¬ low st' := by rw [HLOW.out]; exact fun h => by rw [(lowK_five x p g st').2 h] at hlk; cases hlk
                    have HNL := Lib.hid hnl
                    have hSO7 : SO w1 p0 (ptr q o) (ptr q2 o2) (ptr q3 o3) (.slice (some ⟨b9, o9, none⟩) lim.length cr) budget total st' (sumL st') (.slice none 0 0) 0 m false wr := ⟨a4, k4, by rw [HL'.out, show sumL st' = sumL st + (j : Int) by rw [HST.out]; exact sumL_snoc _ _]; exact hB7, by rw [HL'.out]; exact hO7, hT7⟩
                    clear hnl hlk hB7 hO7 hT7 c2 c4 c6 f4 f6 l0 hca7 hcm7 i7 hzk
                    go_wp2_with fail
                    refine (ih st' m _ (by rw [HL'.out]; have := HL.out; omega) HIN5.out (by omega) hSO7).mono ?_
                    rintro e w7 ⟨rfl, vb, cnt, hSO8, hnf, hfd⟩
                    have hok := runP_ok lim low plan total (fun i hi => (HLB.out i hi).1) d st' m (by rw [HL'.out]; have := HL.out; omega) HIN5.out
                    obtain ⟨r, hr⟩ : ∃ r, r = runP lim low plan total d st' m := ⟨_, rfl⟩
                    rw [← hr] at hSO8 hok hnf hfd ⊢
                    have HRr := Lib.hid (show r = runP lim low plan total d (st ++ [(j : Int)]) (m + 1 - 1) by rw [hr, HST.out]; rfl)
                    clear hr hSO7
                    have HOR := Lib.hid hok
                    obtain ⟨a8, k8, hB8, hO8, hT8⟩ := hSO8
                    rw [HL'.out] at hB8 hO8
                    rw [show sumL st' = sumL st + (j : Int) by rw [HST.out]; exact sumL_snoc _ _] at hB8
                    have c4 := hB8.at' 4 _ rfl
                    have c6 := hB8.at' 6 _ rfl
                    have f4 := hB8.fr 4
                    have f6 := hB8.fr 6
                    have l8 := hB8.lt
                    obtain ⟨_, _, e8, hca8, hcm8, _⟩ := Sl.of_owns hO8
                    cases e8
                    have i8 : st.length ≤ k8 := by omega
                    unfold maxLen at hcm8
                    have HB9 := Lib.hid (SO.back (n := (j : Int)) hB8 (by rw [← HST.out]; exact hO8) hT8 hp1 (sumL st))
                    cases hf : r.found
                    · obtain ⟨rfl, rfl⟩ := hnf hf
                      have HF := Lib.hid hf
                      clear hok hfd hnf hf hB8 hO8 hT8
                      go_wp2_with fail
                      refine ⟨⟨j + 1, r.left, r.spent, by omega, by go_num, by have := HOR.out.left; omega, fun h => ?_, fun h => ?_, HB9.out⟩, by simp [intOf]; omega⟩
                      · rw [← HT.out, tryP_next HTR.out (by omega) (by rw [← HST.out]; exact HNL.out) (by rw [← HRr.out]; exact HF.out) (by rw [← HRr.out]; exact h), ← HRr.out]
                      · refine ⟨HOR.out.spent h, ?_⟩
                        rw [← HT.out, tryP_deep HTR.out (by omega) (by rw [← HST.out]; exact HNL.out) (by rw [← HRr.out]; exact HF.out) (by rw [← HRr.out]; exact h), ← HRr.out, HOR.out.spent h]
                    · obtain ⟨hvi, hvo⟩ := hfd hf
                      have E := Lib.hid (show R = r by rw [← HT.out, HRr.out]; exact tryP_found HTR.out (by omega) (by rw [← HST.out]; exact HNL.out) (by rw [← HRr.out]; exact hf))
                      have tb := ((Two.refl p0 p0 w7).setCell (a := ⟨p0, 4, none⟩) (.inl rfl) (.slice a8 st.length k8)).setCell (a := ⟨p0, 6, none⟩) (.inl rfl) (.int .i64 (sumL st))
                      have HVI := Lib.hid (hvi.two tb hvo)
                      have HVO := Lib.hid hvo
                      have HF := Lib.hid hf
                      clear hok hfd hnf hf hB8 hO8 hT8 hvi hvo tb
                      go_wp2
                      go_ret
                      rw [E.out]
                      exact ⟨ret_bool HF.out.symm, vb, cnt, HB9.out, (fun h => by rw [HF.out] at h; cases h), fun _ => ⟨HVI.out, HVO.out⟩⟩
                  · have hyl : low st' := by rw [HLOW.out]; exact (lowK_five x p g st').1 hlk
                    have E := Lib.hid (show R = ⟨false, st, m, false⟩ by rw [← HT.out, tryP_low HTR.out (by omega) (by rw [← HST.out]; exact hyl)]; rfl)
                    have HB9 := Lib.hid (SO.back (n := (j : Int)) hB7 (by rw [← HST.out]; exact hO7) hT7 hp1 (sumL st))
                    clear hyl hlk hB7 hO7 hT7
                    go_wp2
                    go_ret
                    rw [E.out]
                    exact ⟨rfl, _, 0, HB9.out, fun _ => ⟨rfl, rfl⟩, (fun h => by cases h)⟩
          · have e2 : ((st.length : Int) == (lim.length : Int) - 1) = true := by rw [beq_iff_eq]; omega
            have e3 : (sumL st + (j : Int) != total) = false := by rw [bne_eq_false_iff_eq]; exact htr.2.resolve_left hz
            clear htr hsb hz
            go_wp2_with fail
            go_quiet (fail)
            have hP2 := HP.out.mono (Below.drawN nq)
            obtain ⟨w2, hw2⟩ : ∃ w2, w2 = wr.drewN nq := ⟨_, rfl⟩
            rw [← hw2] at hP2 ⊢
            clear hw2 c3 c5 c6 l0 d9
            obtain ⟨a3, cap3, hB3, ho3, ht3⟩ := hP2
            obtain ⟨nd, hnd⟩ : ∃ nd, nd = budget - left' := ⟨_, rfl⟩
            have hB3' : Box w2 p0 [ptr q o, ptr q2 o2, ptr q3 o3, .slice (some ⟨b9, o9, none⟩) lim.length cr, .slice a3 st.length cap3, .int .i64 total, .int .i64 (sumL st), .bool false, .bool false, .slice none 0 0, .int .i64 (-1), .int .i64 0, .int .i64 (nd : Int), .int .i64 (budget : Int), .bool sp] := by rw [hnd]; exact hB3
            have c12 := hB3'.at' 12 _ rfl
            have c13 := hB3'.at' 13 _ rfl
            have c14 := hB3'.at' 14 _ rfl
            have f12 := hB3'.fr 12
            have f14 := hB3'.fr 14
            have l0 := hB3'.lt
            have HND := Lib.hid hnd
            clear hnd
            rcases left' with _ | m
            · have E := Lib.hid (show R = ⟨false, st, 0, true⟩ by
                cases sp
                · rw [← ht.out rfl, hn1, tryP_spent HTR.out rfl]
                · exact (hs.out rfl).2)
              have d2 : ((nd : Int) == (budget : Int)) = true := by have := HND.out; rw [beq_iff_eq]; omega
              have q1 := hB3.set (.bool true) (j := 14) (by simp [fS])
              have q2' := (Two.refl p0 p0 w2).setCell (a := ⟨p0, 14, none⟩) (.inl rfl) (.bool true)
              have HX := Lib.hid (show SO w1 p0 (ptr q o) (ptr q2 o2) (ptr q3 o3) (.slice (some ⟨b9, o9, none⟩) lim.length cr) budget total st (sumL st) (.slice none 0 0) 0 0 true (w2.setCell ⟨p0, 14, none⟩ (.bool true)) from ⟨a3, cap3, q1, owns_two ho3 q2' (off_owns ho3 hp1 hp1), ht3.trans q2'⟩)
              clear q1 q2' hB3 ho3 ht3 hB3'
              go_wp2
              go_quiet (fail)
              go_wp2
              go_ret
              rw [E.out]
              exact ⟨rfl, _, 0, HX.out.mono (Below.drawN _), fun _ => ⟨rfl, rfl⟩, (fun h => by cases h)⟩
            · have d2 : ((nd : Int) == (budget : Int)) = false := beq_eq_false_iff_ne.2 (by have := HND.out; omega)
              have hsp : sp = false := by
                cases sp
                · rfl
                · exact absurd (hs.out rfl).1 (by omega)
              subst hsp
              have HT := Lib.hid (show tryP (runP lim low plan total d) (isTry lim total st) low st (L + 1 - (j + 1) + 1) j (m + 1) = R by rw [← hn1]; exact ht.out rfl)
              go_wp2
              go_quiet (fail)
              have hP3 := SO.mono (show SO w1 p0 (ptr q o) (ptr q2 o2) (ptr q3 o3) (.slice (some ⟨b9, o9, none⟩) lim.length cr) budget total st (sumL st) (.slice none 0 0) 0 (m + 1) false w2 from ⟨a3, cap3, hB3, ho3, ht3⟩) (Below.drawN nq)
              obtain ⟨w3, hw3⟩ : ∃ w3, w3 = w2.drewN nq := ⟨_, rfl⟩
              rw [← hw3] at hP3 ⊢
              clear hw3 c12 c13 c14 f12 f14 l0 hB3 ho3 ht3 hB3' d2
              obtain ⟨a3, cap3, hB3, ho3, ht3⟩ := hP3
              have hB3' : Box w3 p0 [ptr q o, ptr q2 o2, ptr q3 o3, .slice (some ⟨b9, o9, none⟩) lim.length cr, .slice a3 st.length cap3, .int .i64 total, .int .i64 (sumL st), .bool false, .bool false, .slice none 0 0, .int .i64 (-1), .int .i64 0, .int .i64 (nd : Int), .int .i64 (budget : Int), .bool false] := by rw [HND.out]; exact hB3
              have c4 := hB3'.at' 4 _ rfl
              have c12 := hB3'.at' 12 _ rfl
              have c14 := hB3'.at' 14 _ rfl
              have f12 := hB3'.fr 12
              have l3 := hB3'.lt
              have n20 : nd ≤ 20000 := by have := HND.out; omega
              have s1 := hB3'.set (.int .i64 ((nd : Int) + 1)) (j := 12) (by simp)
              have s3 := (Two.refl p0 p0 w3).setCell (a := ⟨p0, 12, none⟩) (.inl rfl) (.int .i64 ((nd : Int) + 1))
              have S1 := Lib.hid (show Box (w3.setCell ⟨p0, 12, none⟩ (.int .i64 ((nd : Int) + 1))) p0 (fS (ptr q o) (ptr q2 o2) (ptr q3 o3) (.slice (some ⟨b9, o9, none⟩) lim.length cr) budget total (.slice a3 st.length cap3) (sumL st) (.slice none 0 0) 0 m false) by
                have e : (((budget - m : Nat)) : Int) = (nd : Int) + 1 := by have := HND.out; omega
                unfold fS; rw [e]; exact s1)
              have S2 := Lib.hid (owns_two ho3 s3 (off_owns ho3 hp1 hp1))
              have S3 := Lib.hid (ht3.trans s3)
              have hz3 := S3.out.size
              clear s1 s3 hB3 ho3 ht3 hB3'
              go_wp2_with (at_builtin; refine append_one_at rfl _ _ 22 rfl w1.heap.size 2 (.int .i64 0) 1 8 Tryz.underlying22 info_int rfl (by decide) _ st.length _ rfl S2.out [.int .i64 (j : Int)] rfl (by simp [Value.oneCell']) w3.heap.size (by simp) rfl (by omega) (by decide) (by simpa using hz3) ?_)
              intro a4 k4 w4 ho4 hg4 hb4 _
              have hB4 := S1.out.step hb4 hp1
              have ht4 := S3.out.step hb4 (Nat.le_refl _)
              clear hg4 c4 c12 c14 f12 l3 hz3
              have c4 := hB4.at' 4 _ rfl
              have c6 := hB4.at' 6 _ rfl
              have c8 := hB4.at' 8 _ rfl
              have f4 := hB4.fr 4
              have f6 := hB4.fr 6
              have l4 := hB4.lt
              have q1 := (hB4.set (.slice a4 (st.length + 1) k4) (j := 4) (by simp [fS])).set (.int .i64 (sumL st + (j : Int))) (j := 6) (by simp [fS])
              have qq3 := ((Two.refl p0 p0 w4).setCell (a := ⟨p0, 4, none⟩) (.inl rfl) (.slice a4 (st.length + 1) k4)).setCell (a := ⟨p0, 6, none⟩) (.inl rfl) (.int .i64 (sumL st + (j : Int)))
              have HB5 := Lib.hid (show Box ((w4.setCell ⟨p0, 4, none⟩ (.slice a4 (st.length + 1) k4)).setCell ⟨p0, 6, none⟩ (.int .i64 (sumL st + (j : Int)))) p0 (fS (ptr q o) (ptr q2 o2) (ptr q3 o3) (.slice (some ⟨b9, o9, none⟩) lim.length cr) budget total (.slice a4 (st.length + 1) k4) (sumL st + (j : Int)) (.slice none 0 0) 0 m false) from q1)
              have HO5 := Lib.hid (owns_two ho4 qq3 (off_owns ho4 hp1 hp1))
              have HT5 := Lib.hid (ht4.trans qq3)
              clear hB4 ho4 hb4 ht4 q1 qq3
              go_wp2_with fail
              obtain ⟨w5, hw5⟩ : ∃ w5, w5 = (w4.setCell ⟨p0, 4, none⟩ (.slice a4 (st.length + 1) k4)).setCell ⟨p0, 6, none⟩ (.int .i64 (sumL st + (j : Int))) := ⟨_, rfl⟩
              rw [← hw5] at HB5 HO5 HT5 ⊢
              clear hw5 c4 c6 c8 f4 f6 l4
              have hE5 := HE.out.mono (by rw [H0.out]; exact HT5.out.below H01.out (Nat.le_refl _) (Nat.le_refl _) (Nat.le_of_lt hp1))
              obtain ⟨st', hst'⟩ : ∃ st', st' = st ++ [(j : Int)] := ⟨_, rfl⟩
              have hl' : st'.length = st.length + 1 := by rw [hst']; simp
              have hmp : st.map (Value.int .i64) ++ [.int .i64 (j : Int)] = st'.map (Value.int .i64) := by rw [hst']; simp
              rw [hmp] at HO5
              have HST := Lib.hid hst'
              have HL' := Lib.hid hl'
              have hI5 : Ints w5 (.slice a4 st'.length k4) st' := by rw [HL'.out]; have := Sl.of_owns HO5.out; rw [← HL'.out] at this ⊢; exact this
              have HIN5 := Lib.hid (show stIn lim st' by rw [HST.out]; exact stIn_snoc HIN0.out (by rw [HLz.out]; omega))
              have hc0 := HB5.out.at' 0 _ rfl
              have hc1 := HB5.out.at' 1 _ rfl
              have hc4 : w5.cell? ⟨p0, 4, none⟩ = some (.slice a4 st'.length k4) := by rw [HL'.out]; exact HB5.out.at' 4 _ rfl
              clear hmp hst' hl'
              refine (raw_any p0 q o x q2 o2 p q3 o3 g st' _ hE5 hc0 hc1 hc4 hI5 (by rw [HL'.out]; have := HLL.out; omega) (HRM.out _ HIN5.out)).mono ?_
              rintro e w6 ⟨v6, rfl, ho6, hb6⟩
              have HI6 := Lib.hid (show Ints w6 v6 (rawS x p st') from ho6.rd)
              have HRL := Lib.hid (rawS_len x p st')
              obtain ⟨a6, k6, rfl⟩ := ho6.form
              have hE6 := hE5.mono hb6
              have HE6 := Lib.hid hE6
              have HB6 := Lib.hid (HB5.out.mono hb6)
              have HO6 := Lib.hid (owns_mono HO5.out hb6)
              have HT6 := Lib.hid (HT5.out.step hb6 HT5.out.size)
              clear ho6 hb6 hE5 hE6 hc0 hc1 hc4 hI5 HB5 HO5 HT5
              go_wp2_with fail
              go_loopw [5, 7] (fun lv kv wi => ∃ k : Nat, k ≤ 5 ∧ kv = .int .i64 (k : Int) ∧ lv = .bool (lowK x p g st' k) ∧ Below w6.heap.size w6 wi) (fun _ kv _ => 5 - (intOf kv).toNat)
              case atStart => exact ⟨0, Nat.zero_le _, by go_num, rfl, Below.refl _ _⟩
              case round =>
                obtain ⟨k, hk, rfl, rfl, hbk⟩ := hrel
                have HBK := Lib.hid hbk
                have hzk := hbk.size
                have hB7 := HB6.out.mono hbk
                have c2 : wr.cell? ⟨p0, 2, none⟩ = some (.pointer (some ⟨q3, o3, none⟩)) := hB7.at' 2 _ rfl
                have l0 := hB7.lt
                by_cases hk5 : k < 5
                · have hk5I : (k : Int) < 5 := by omega
                  have hkr : k < (rawS x p st').length := by rw [HRL.out]; exact hk5
                  have hkrI : (k : Int) < ((rawS x p st').length : Int) := by omega
                  obtain ⟨b8, o8, rfl, c8⟩ := (Ints.mono HI6.out hbk).cells (by rw [List.length_map, HRL.out]; omega)
                  have d8 := c8 k (.int .i64 ((rawS x p st').getD k 0)) (by rw [List.getElem?_map, List.getElem?_eq_getElem hkr, List.getD_eq_getElem?_getD, List.getElem?_eq_getElem hkr]; rfl)
                  obtain ⟨f, hf⟩ : ∃ f, f = (rawS x p st').getD k 0 := ⟨_, rfl⟩
                  rw [← hf] at d8
                  have lb8 := World.block_lt_of_cell? _ _ d8
                  simp only at lb8
                  have HKN := Lib.hid (show lowK x p g st' (k + 1) = (lowK x p g st' k || lowB g k f) by rw [hf]; rfl)
                  obtain ⟨bk, hbk2⟩ : ∃ bk, bk = lowK x p g st' k := ⟨_, rfl⟩
                  rw [← hbk2] at HKN ⊢
                  have hkw : IntKind.i64.wrap ((k : Int) + 1) = (k : Int) + 1 := IntWalk.i64_in _ (by omega)
                  clear c8 hf hbk2 hbk hB7
                  cases bk
                  · obtain ⟨bl, hbl⟩ : ∃ bl, bl = lowB g k f := ⟨_, rfl⟩
                    have HBL := Lib.hid hbl
                    clear hbl
                    go_wp2_with fail
                    refine wp_region_ord [(0, true), (1, true), (2, true), (3, true), (4, true), (5, true), (6, true), (7, true), (8, true), (9, true), (10, true), (11, false), (12, true), (13, true)] (none) (by kernel_rfl) (by kernel_rfl) ?_
                    (repeat (with_reducible refine wpOrd_soft (fun K hK => ?_); simp only [List.getElem?_toArray, List.getElem?_cons_zero, List.getElem?_cons_succ]; first | (go_simp; refine hK _ ?_) | (simp only [undef]; go_simp; refine hK _ ?_); clear hK K))
                    (with_reducible refine wpOrd_hard ?_; simp only [List.getElem?_toArray, List.getElem?_cons_zero, List.getElem?_cons_succ])
                    go_wp2_with fail
                    refine (l10Low_any bl q3 o3 g k f _ ((HE6.out.ig.mono HBK.out).mono (Below.refl _ _).drew) HE6.out.okg hk5 HBL.out).mono ?_
                    rintro e w8 ⟨rfl, hb8⟩
                    have hb8 : Below wr.heap.size wr w8 := undrew hb8
                    go_wp2_with fail
                    refine ⟨grown_of_below hb8, ?_⟩
                    (repeat (with_reducible refine wpOrd_soft (fun K hK => ?_); simp only [List.getElem?_toArray, List.getElem?_cons_zero, List.getElem?_cons_succ]; first | (go_simp; refine hK _ ?_) | (simp only [undef]; go_simp; refine hK _ ?_); clear hK K))
                    (with_reducible refine wpOrd_nil ?_); refine NoPanic.normal ?_
                    have HB8 := Lib.hid (HBK.out.trans (hb8.mono hzk))
                    clear hb8 c2 l0 d8
                    go_wp2
                    go_roundw
                    case rel => exact ⟨k + 1, by omega, by go_num, by rw [HKN.out, ← HBL.out, Bool.false_or], HB8.out⟩
                    case measure => simp [intOf]; omega
                  · go_wp2_with fail
                    go_quiet (fail)
                    clear c2 l0 d8
                    go_wp2
                    go_roundw
                    case rel => exact ⟨k + 1, by omega, by go_num, by rw [HKN.out, Bool.true_or], HBK.out.trans ((Below.drawN _).mono hzk)⟩
                    case measure => simp [intOf]; omega
                · obtain rfl : k = 5 := by omega
                  have hO7 := owns_mono HO6.out hbk
                  have hT7 := HT6.out.step hbk HT6.out.size
                  have c4 := hB7.at' 4 _ rfl
                  have c6 := hB7.at' 6 _ rfl
                  have f4 := hB7.fr 4
                  have f6 := hB7.fr 6
                  obtain ⟨_, _, e7, hca7, hcm7, _⟩ := Sl.of_owns hO7
                  cases e7
                  have i7 : st.length ≤ k4 := by omega
                  unfold maxLen at hcm7
                  have hsb := HSB.out
                  have w4' : IntKind.i64.wrap (sumL st + (j : Int) - (j : Int)) = sumL st := by rw [Int.add_sub_cancel]; exact IntWalk.i64_in _ (by omega)
                  clear hbk
                  cases hlk : lowK x p g st' 5
                  · have hnl : ¬ low st' := by rw [HLOW.out]; exact fun h => by rw [(lowK_five x p g st').2 h] at hlk; cases hlk
                    have HNL := Lib.hid hnl
                    have hSO7 : SO w1 p0 (ptr q o) (ptr q2 o2) (ptr q3 o3) (.slice (some ⟨b9, o9, none⟩) lim.length cr) budget total st' (sumL st') (.slice none 0 0) 0 m false wr := ⟨a4, k4, by rw [HL'.out, show sumL st' = sumL st + (j : Int) by rw [HST.out]; exact sumL_snoc _ _]; exact hB7, by rw [HL'.out]; exact hO7, hT7⟩
                    clear hnl hlk hB7 hO7 hT7 c2 c4 c6 f4 f6 l0 hca7 hcm7 i7 hzk
                    go_wp2_with fail
                    refine (ih st' m _ (by rw [HL'.out]; have := HL.out; omega) HIN5.out (by omega) hSO7).mono ?_
                    rintro e w7 ⟨rfl, vb, cnt, hSO8, hnf, hfd⟩
                    have hok := runP_ok lim low plan total (fun i hi => (HLB.out i hi).1) d st' m (by rw [HL'.out]; have := HL.out; omega) HIN5.out
                    obtain ⟨r, hr⟩ : ∃ r, r = runP lim low plan total d st' m := ⟨_, rfl⟩
                    rw [← hr] at hSO8 hok hnf hfd ⊢
                    have HRr := Lib.hid (show r = runP lim low plan total d (st ++ [(j : Int)]) (m + 1 - 1) by rw [hr, HST.out]; rfl)
                    clear hr hSO7
                    have HOR := Lib.hid hok
                    obtain ⟨a8, k8, hB8, hO8, hT8⟩ := hSO8
                    rw [HL'.out] at hB8 hO8
                    rw [show sumL st' = sumL st + (j : Int) by rw [HST.out]; exact sumL_snoc _ _] at hB8
                    have c4 := hB8.at' 4 _ rfl
                    have c6 := hB8.at' 6 _ rfl
                    have f4 := hB8.fr 4
                    have f6 := hB8.fr 6
                    have l8 := hB8.lt
                    obtain ⟨_, _, e8, hca8, hcm8, _⟩ := Sl.of_owns hO8
                    cases e8
                    have i8 : st.length ≤ k8 := by omega
                    unfold maxLen at hcm8
                    have HB9 := Lib.hid (SO.back (n := (j : Int)) hB8 (by rw [← HST.out]; exact hO8) hT8 hp1 (sumL st))
                    cases hf : r.found
                    · obtain ⟨rfl, rfl⟩ := hnf hf
                      have HF := Lib.hid hf
                      clear hok hfd hnf hf hB8 hO8 hT8
                      go_wp2_with fail
                      refine ⟨⟨j + 1, r.left, r.spent, by omega, by go_num, by have := HOR.out.left; omega, fun h => ?_, fun h => ?_, HB9.out⟩, by simp [intOf]; omega⟩
                      · rw [← HT.out, tryP_next HTR.out (by omega) (by rw [← HST.out]; exact HNL.out) (by rw [← HRr.out]; exact HF.out) (by rw [← HRr.out]; exact h), ← HRr.out]
                      · refine ⟨HOR.out.spent h, ?_⟩
                        rw [← HT.out, tryP_deep HTR.out (by omega) (by rw [← HST.out]; exact HNL.out) (by rw [← HRr.out]; exact HF.out) (by rw [← HRr.out]; exact h), ← HRr.out, HOR.out.spent h]
                    · obtain ⟨hvi, hvo⟩ := hfd hf
                      have E := Lib.hid (show R = r by rw [← HT.out, HRr.out]; exact tryP_found HTR.out (by omega) (by rw [← HST.out]; exact HNL.out) (by rw [← HRr.out]; exact hf))
                      have tb := ((Two.refl p0 p0 w7).setCell (a := ⟨p0, 4, none⟩) (.inl rfl) (.slice a8 st.length k8)).setCell (a := ⟨p0, 6, none⟩) (.inl rfl) (.int .i64 (sumL st))
                      have HVI := Lib.hid (hvi.two tb hvo)
                      have HVO := Lib.hid hvo
                      have HF := Lib.hid hf
                      clear hok hfd hnf hf hB8 hO8 hT8 hvi hvo tb
                      go_wp2
                      go_ret
                      rw [E.out]
                      exact ⟨ret_bool HF.out.symm, vb, cnt, HB9.out, (fun h => by rw [HF.out] at h; cases h), fun _ => ⟨HVI.out, HVO.out⟩⟩
                  · have hyl : low st' := by rw [HLOW.out]; exact (lowK_five x p g st').1 hlk
                    have E := Lib.hid (show R = ⟨false, st, m, false⟩ by rw [← HT.out, tryP_low HTR.out (by omega) (by rw [← HST.out]; exact hyl)]; rfl)
                    have HB9 := Lib.hid (SO.back (n := (j : Int)) hB7 (by rw [← HST.out]; exact hO7) hT7 hp1 (sumL st))
                    clear hyl hlk hB7 hO7 hT7
                    go_wp2
                    go_ret
                    rw [E.out]
                    exact ⟨rfl, _, 0, HB9.out, fun _ => ⟨rfl, rfl⟩, (fun h => by cases h)⟩
        · have HTR := Lib.hid htr
          by_cases h1 : sumL st + (j : Int) ≤ total
          · have e1 : decide (total < sumL st + (j : Int)) = false := decide_eq_false (by omega)
            have hz : ¬ st.length + 1 < lim.length := fun h => htr ⟨h1, .inl h⟩
            have e2 : ((st.length : Int) == (lim.length : Int) - 1) = true := by rw [beq_iff_eq]; omega
            have e3 : (sumL st + (j : Int) != total) = true := by rw [bne_iff_ne]; exact fun h => htr ⟨h1, .inr h⟩
            clear htr hsb h1 hz
            go_wp2_with fail
            go_quiet (fail)
            go_wp2
            go_roundw
            case rel => exact ⟨j + 1, left', sp, by omega, by go_num, hleft', (fun h => by have := ht.out h; rw [hn1, tryP_skip HTR.out] at this; exact this), hs.out, (HP.out.mono (Below.drawN _))⟩
            case measure => simp [intOf]; omega
          · have e1 : decide (total < sumL st + (j : Int)) = true := decide_eq_true (by omega)
            clear htr hsb h1
            go_wp2_with fail
            go_quiet (fail)
            go_wp2
            go_roundw
            case rel => exact ⟨j + 1, left', sp, by omega, by go_num, hleft', (fun h => by have := ht.out h; rw [hn1, tryP_skip HTR.out] at this; exact this), hs.out, (HP.out.mono (Below.drawN _))⟩
            case measure => simp [intOf]; omega
      · obtain rfl : j = L + 1 := by omega
        have hltI : ¬ ((L + 1 : Nat) : Int) ≤ (L : Int) := by omega
        clear hB hown htwo
        go_wp2
        go_ret
        cases sp
        · have E := ht.out rfl
          rw [Nat.sub_self, tryP_end] at E
          rw [← E]
          exact ⟨rfl, _, 0, HP.out, fun _ => ⟨rfl, rfl⟩, (fun h => by cases h)⟩
        · obtain ⟨e0, e1⟩ := hs.out rfl
          have hPp := HP.out
          rw [e0] at hPp
          rw [e1]
          exact ⟨rfl, _, 0, hPp, fun _ => ⟨rfl, rfl⟩, (fun h => by cases h)⟩
end Go.Proofs.YtenedpboehkmjaaGreat
/- The program's search for a plan: contracts of soundAfter, isPlan, tooLow. -/
set_option linter.unusedSimpArgs false
set_option linter.unnecessarySimpa false
set_option linter.unusedVariables false
set_option maxRecDepth 100000
namespace Go.Proofs.YtenedpboehkmjaaGreat
open Go.RowKit

/-- What lies in memory when a search of the program begins. -/
structure EnvI (w : World) (vz vg vb : Value) (x : ModD) (vp : Value) (p : PrfD) (g : GoalD) : Prop where
  im : RdModD w (.agg #[vz, vg, vb]) x
  ip : RdPrf w (.agg #[.string p.name, vp]) p
  okm : modOk x
  okp : prfOk p
  okg : goalOk g
  zo : zonesOk p.rings.length x.zones
  hn : p.name.size ≤ maxLen
theorem EnvI.mono {w w' : World} {vz vg vb : Value} {x : ModD} {vp : Value} {p : PrfD} {g : GoalD} (h : EnvI w vz vg vb x vp p g) (hb : Below w.heap.size w w') : EnvI w' vz vg vb x vp p g :=
  ⟨h.im.mono hb, h.ip.mono hb, h.okm, h.okp, h.okg, h.zo, h.hn⟩
theorem EnvI.form {w : World} {vz vg vb : Value} {x : ModD} {vp : Value} {p : PrfD} {g : GoalD} (h : EnvI w vz vg vb x vp p g) : Ints w vz x.zones ∧ (∃ az cz, vz = .slice az x.zones.length cz) ∧ (∃ ag cg, vg = .slice ag x.weights.length cg) ∧ (∃ ab cb, vb = .slice ab x.base.length cb) ∧ (∃ ap cp, vp = .slice ap p.rings.length cp) := by
  obtain ⟨z, gg, b, e, h1, h2, h3⟩ := h.im
  obtain ⟨lv, e2, hrr⟩ := h.ip
  simp only [Value.agg.injEq, Array.mk.injEq, List.cons.injEq, and_true] at e e2
  obtain ⟨rfl, rfl, rfl⟩ := e
  obtain ⟨_, rfl⟩ := e2
  refine ⟨h1, ?_, h2.form, ?_, ?_⟩
  · obtain ⟨a, c, rfl, _⟩ := h1; exact ⟨a, c, rfl⟩
  · obtain ⟨a, c, rfl, _⟩ := h3; exact ⟨a, c, rfl⟩
  · obtain ⟨a, c, rfl, _⟩ := hrr; exact ⟨a, c, rfl⟩
def sndV (s : SndD) : Value := .agg #[.int .i64 s.a, .int .i64 s.b, .int .i64 s.c, .int .i64 s.d, .int .i64 s.e]

set_option maxHeartbeats 4000000 in
theorem soundAfter_any (vz vg vb : Value) (x : ModD) (vp : Value) (p : PrfD) (g : GoalD) (vs : Value) (u : List Int) (w : World) (hE : EnvI w vz vg vb x vp p g) (hI : Ints w vs u) (hl : x.zones.length ≤ u.length) (hrm : inRoom p x.zones (stF u)) :
    Calls Tryz.prog 73 #[.agg #[vz, vg, vb], .agg #[.string p.name, vp], vs] w fun e w' => e = .returned (.tuple #[sndV (sOf (rawS x p u)), .bool (decide (sndOk (sOf (rawS x p u))))]) ∧ Below w.heap.size w w' := by
  have HE := Lib.hid hE
  obtain ⟨hz, ⟨az, cz, rfl⟩, ⟨ag, cg, rfl⟩, ⟨ab, cb, rfl⟩, ⟨ap, cp, rfl⟩⟩ := hE.form
  have HZ := Lib.hid hz
  have HI := Lib.hid hI
  obtain ⟨aS, cS, rfl, _⟩ := id hI
  have HRM := Lib.hid hrm
  have hl1 := hE.zo.1.1
  clear hE hz hI hrm
  go_enter Tryz.func73, Tryz.ntmps73
  go_wp2_with fail
  obtain ⟨wA, hA⟩ : ∃ wA, wA = ((w.alloc (.cells #[.slice az x.zones.length cz, .slice ag x.weights.length cg, .slice ab x.base.length cb] 38)).alloc (.cells #[.string p.name, .slice ap p.rings.length cp] 42)).alloc (.cells #[.int .i64 0, .int .i64 0, .int .i64 0, .int .i64 0, .int .i64 0] 44) := ⟨_, rfl⟩
  rw [← hA]
  have HBA := Lib.hid (show Below w.heap.size w wA by rw [hA]; (repeat (first | with_reducible exact Below.refl _ _ | with_reducible exact hbw | (with_reducible refine Below.setCell ?_ ?_ _; rotate_left; · first | exact Nat.le_refl _ | omega | (simp; done) | (simp; omega)) | (with_reducible refine Below.alloc ?_ ?_ _; rotate_left; · first | exact Nat.le_refl _ | omega | (simp; done) | (simp; omega)) | with_reducible refine below_drewN ?_ _ | with_reducible refine Below.drew ?_)))
  have BM := Lib.hid (show Box wA w.heap.size [.slice az x.zones.length cz, .slice ag x.weights.length cg, .slice ab x.base.length cb] by
    rw [hA]; exact ((Box.alloc w _ _ _ rfl).mono (belowA _ _)).mono (belowA _ _))
  have BR := Lib.hid (show Box wA (w.heap.size + 1 + 1) [.int .i64 0, .int .i64 0, .int .i64 0, .int .i64 0, .int .i64 0] by
    rw [hA]; exact Box.alloc _ _ _ _ (by simp))
  have HSA := Lib.hid (show w.heap.size + 1 + 1 + 1 ≤ wA.heap.size by rw [hA]; simp)
  clear hA
  refine (turned_any _ p _ x.zones _ u _ (HE.out.ip.mono HBA.out) (Ints.mono HZ.out HBA.out) (Ints.mono HI.out HBA.out) HE.out.okp HE.out.zo hl (room_20 HRM.out)).mono ?_
  rintro e w1 ⟨a1, c1, rfl, hr1, hb1⟩
  have HR1 := Lib.hid (rdTurn hr1 rfl)
  have HB1 := Lib.hid (HBA.out.trans (hb1.mono HBA.out.size))
  replace BM := Lib.hid (BM.out.mono hb1)
  replace BR := Lib.hid (BR.out.mono hb1)
  have HS1 := Lib.hid (show w.heap.size + 1 + 1 + 1 ≤ w1.heap.size from Nat.le_trans HSA.out hb1.size)
  clear hr1 hb1
  go_wp2_with fail
  obtain ⟨w2, hw2⟩ : ∃ w2, w2 = w1.alloc (.cells #[.string p.name, .slice a1 p.rings.length c1] 42) := ⟨_, rfl⟩
  rw [← hw2]
  have hb2 : Below w1.heap.size w1 w2 := by rw [hw2]; exact belowA _ _
  have BT := Lib.hid (show Box w2 w1.heap.size [.string p.name, .slice a1 p.rings.length c1] by rw [hw2]; exact Box.alloc _ _ _ _ rfl)
  replace HR1 := Lib.hid (HR1.out.mono hb2)
  replace HB1 := Lib.hid (HB1.out.trans (hb2.mono HB1.out.size))
  replace BM := Lib.hid (BM.out.mono hb2)
  replace BR := Lib.hid (BR.out.mono hb2)
  have hs2 := hb2.size
  clear hw2 hb2
  have HOKT := Lib.hid (turn_ok HE.out.okp hl1 HRM.out)
  refine (ValidProfile_any true _ (turnP p x.zones (stF u)) _ HR1.out HE.out.hn (yesB HOKT.out)).mono ?_
  rintro e w3 ⟨rfl, hb3⟩
  replace HR1 := Lib.hid (HR1.out.mono hb3)
  replace HB1 := Lib.hid (HB1.out.trans (hb3.mono HB1.out.size))
  replace BM := Lib.hid (BM.out.mono hb3)
  replace BR := Lib.hid (BR.out.mono hb3)
  replace BT := Lib.hid (BT.out.mono hb3)
  have hs3 := hb3.size
  clear hb3
  have m0 := BM.out.at' 0 _ rfl
  have m1 := BM.out.at' 1 _ rfl
  have m2 := BM.out.at' 2 _ rfl
  have t0 := BT.out.at' 0 _ rfl
  have t1 := BT.out.at' 1 _ rfl
  have ml := BM.out.lt
  have tl := BT.out.lt
  go_wp2_with fail
  refine (rawPartials_any _ _ x (turnP p x.zones (stF u)) _ (HE.out.im.mono HB1.out) HR1.out HE.out.okm HOKT.out (zo_turn HE.out.zo)).mono ?_
  rintro e w4 ⟨v4, rfl, ho4, hb4⟩
  obtain ⟨s, hs⟩ : ∃ s, s = sOf (rawS x p u) := ⟨_, rfl⟩
  have HI4 := Lib.hid (show Ints w4 v4 s.list by rw [hs, sOf_list (rawS_len x p u)]; exact ho4.rd)
  have HS := Lib.hid hs
  obtain ⟨a4, c4, rfl⟩ := ho4.form
  replace HB1 := Lib.hid (HB1.out.trans (hb4.mono HB1.out.size))
  replace BR := Lib.hid (BR.out.mono hb4)
  have hs4 := hb4.size
  clear hb4 ho4 hs m0 m1 m2 t0 t1 ml tl
  go_wp2_with fail
  refine (soundOf_any _ s _ HI4.out).mono ?_
  rintro e w5 ⟨rfl, hb5⟩
  replace HB1 := Lib.hid (HB1.out.trans (hb5.mono HB1.out.size))
  replace BR := Lib.hid (BR.out.mono hb5)
  have hs5 := hb5.size
  clear hb5
  go_wp2_with fail
  obtain ⟨w6, hw6⟩ : ∃ w6, w6 = w5.alloc (.cells #[.int .i64 s.a, .int .i64 s.b, .int .i64 s.c, .int .i64 s.d, .int .i64 s.e] 44) := ⟨_, rfl⟩
  rw [← hw6]
  have hb6 : Below w5.heap.size w5 w6 := by rw [hw6]; exact belowA _ _
  have B6 : Box w6 w5.heap.size [.int .i64 s.a, .int .i64 s.b, .int .i64 s.c, .int .i64 s.d, .int .i64 s.e] := by rw [hw6]; exact Box.alloc _ _ _ _ rfl
  replace HB1 := Lib.hid (HB1.out.trans (hb6.mono HB1.out.size))
  replace BR := Lib.hid (BR.out.mono hb6)
  have hs6 := hb6.size
  clear hw6 hb6
  have hlt6 := B6.lt
  have hne6 : some w5.heap.size ≠ some (w.heap.size + 1 + 1) := by intro e; have h1 := HS1.out; simp at e; omega
  have y0 := B6.at' 0 _ rfl
  have y1 := B6.at' 1 _ rfl
  have y2 := B6.at' 2 _ rfl
  have y3 := B6.at' 3 _ rfl
  have y4 := B6.at' 4 _ rfl
  have n0 : ∀ o y', (ext w6 (some (w.heap.size + 1 + 1)) y').cell? ⟨w5.heap.size, o, none⟩ = w6.cell? ⟨w5.heap.size, o, none⟩ := fun o y' => cell?_ext (w := w6) hlt6 hne6
  go_wp2_with fail
  refine wp_region_ord [(0, true), (1, true), (2, false), (3, false), (4, true)] (some (w.heap.size + 1 + 1)) (by kernel_rfl) (by kernel_rfl) ?_
  (repeat (with_reducible refine wpOrd_soft (fun K hK => ?_); simp only [List.getElem?_toArray, List.getElem?_cons_zero, List.getElem?_cons_succ]; first | (go_simp; refine hK _ ?_) | (simp only [undef]; go_simp; refine hK _ ?_); clear hK K))
  (with_reducible refine wpOrd_hard ?_; simp only [List.getElem?_toArray, List.getElem?_cons_zero, List.getElem?_cons_succ])
  go_wp2_with fail
  refine (ValidSound_any (decide (sndOk s)) s _ rfl).mono ?_
  rintro e w7 ⟨rfl, hb7⟩
  have HG7 := Lib.hid (show w6.grownBy w7 (some (w.heap.size + 1 + 1)) from grown_stepS (undrew hb7))
  have hb7 : Below w6.heap.size w6 w7 := undrew hb7
  have B7 := BR.out.mono hb7
  have r0 := B7.at' 0 _ rfl
  have r1 := B7.at' 1 _ rfl
  have r2 := B7.at' 2 _ rfl
  have r3 := B7.at' 3 _ rfl
  have r4 := B7.at' 4 _ rfl
  have f0 := B7.fr 0
  have f1 := B7.fr 1
  have f2 := B7.fr 2
  have f3 := B7.fr 3
  have f4 := B7.fr 4
  have l7 := B7.lt
  replace HB1 := Lib.hid (HB1.out.trans (hb7.mono HB1.out.size))
  clear hb7 y0 y1 y2 y3 y4 n0 B6 B7
  go_wp2_with fail
  refine ⟨HG7.out, ?_⟩
  (repeat (with_reducible refine wpOrd_soft (fun K hK => ?_); simp only [List.getElem?_toArray, List.getElem?_cons_zero, List.getElem?_cons_succ]; first | (go_simp; refine hK _ ?_) | (simp only [undef]; go_simp; refine hK _ ?_); clear hK K))
  (with_reducible refine wpOrd_hard ?_; simp only [List.getElem?_toArray, List.getElem?_cons_zero, List.getElem?_cons_succ])
  go_wp2_with fail
  refine ⟨grown_cellS (grown_cellS (grown_cellS (grown_cellS (grown_cellS HG7.out _ _) _ _) _ _) _ _) _ _, ?_⟩
  (repeat (with_reducible refine wpOrd_soft (fun K hK => ?_); simp only [List.getElem?_toArray, List.getElem?_cons_zero, List.getElem?_cons_succ]; first | (go_simp; refine hK _ ?_) | (simp only [undef]; go_simp; refine hK _ ?_); clear hK K))
  (with_reducible refine wpOrd_nil ?_); refine NoPanic.normal ?_
  go_wp2
  refine bodyPost_ret (v := .tuple #[sndV s, .bool (decide (sndOk s))]) (by simp [results, Tryz.results73, go_sem, sndV, r0, r1, r2, r3, r4, f0, f1, f2, f3, f4, l7]) rfl ⟨by rw [HS.out], ?_⟩
  have hbw := HB1.out
  (repeat (first | with_reducible exact Below.refl _ _ | with_reducible exact hbw | (with_reducible refine Below.setCell ?_ ?_ _; rotate_left; · first | exact Nat.le_refl _ | omega | (simp; done) | (simp; omega)) | (with_reducible refine Below.alloc ?_ ?_ _; rotate_left; · first | exact Nat.le_refl _ | omega | (simp; done) | (simp; omega)) | with_reducible refine below_drewN ?_ _ | with_reducible refine Below.drew ?_))
end Go.Proofs.YtenedpboehkmjaaGreat
