/- The law FnBays returns true and leaves memory as it was. -/
import Derived.Test.YteaijhmgfddjiaaDrawPl
import Derived.Test.YteaijhmgfddjiaaFree2
import Derived.Test.YteaijhmgfddjiaaLong
set_option linter.unusedSimpArgs false
set_option linter.unnecessarySimpa false
set_option linter.unusedVariables false
set_option maxRecDepth 100000
namespace Go.Proofs.Yteaijhmgfddjiaa
open Go.RowKit

theorem sumB_small {xs : List BayD} (h : ∀ x ∈ xs, smP x) : ∀ k, k ≤ xs.length → sumBayD xs k ≤ 20 * k
  | 0, _ => by simp [sumBayD]
  | k + 1, hk => by
    have h1 := sumB_small h k (by omega)
    rw [sumBayD_step (by omega)]
    have := (h _ (List.getElem_mem (show k < xs.length by omega))).id
    omega
theorem szB_small {xs : List BayD} (h : ∀ x ∈ xs, smP x) (hl : xs.length ≤ 12) : szBayDs xs ≤ 1048576 := by
  have := sumB_small h xs.length (Nat.le_refl _)
  unfold szBayDs; omega
theorem sumC_small {xs : List CasD} (h : ∀ x ∈ xs, smC x) : ∀ k, k ≤ xs.length → sumCasD xs k ≤ 20 * k
  | 0, _ => by simp [sumCasD]
  | k + 1, hk => by
    have h1 := sumC_small h k (by omega)
    rw [sumCasD_step (by omega)]
    have := (h _ (List.getElem_mem (show k < xs.length by omega))).bell
    omega
theorem szC_small {xs : List CasD} (h : ∀ x ∈ xs, smC x) (hl : xs.length ≤ 14) : szCasDs xs ≤ 1048576 := by
  have := sumC_small h xs.length (Nat.le_refl _)
  unfold szCasDs; omega

def Fewest (w : World) (e : Ending) (w' : World) : Prop := ∃ (xs : List BayD) (a1 : Option Addr) (c1 : Nat) (cs : List CasD) (a2 : Option Addr) (c2 : Nat) (b : Int), e = .returned (.tuple #[.slice a1 xs.length c1, .slice a2 cs.length c2, .int .i64 b]) ∧ RdBayDs w' (.slice a1 xs.length c1) xs ∧ RdCasDs w' (.slice a2 cs.length c2) cs ∧ (∀ x ∈ xs, smP x) ∧ (∀ x ∈ cs, smC x) ∧ xs.length ≤ 12 ∧ cs.length ≤ 14 ∧ (0 ≤ b ∧ b ≤ 20001) ∧ Below w.heap.size w w'
set_option maxHeartbeats 1000000 in
theorem DrawFewestBays_any (w : World) (v0 : Value) (x0 : List Int) (h0 : Byts w v0 x0) (o0 : okByts x0) :
    Calls Try.prog 7 #[v0] w (Fewest w) := by
  obtain ⟨a0, ca, rfl, _, _, _⟩ := id h0
  go_enter Try.func7, Try.ntmps7
  go_wp2_with fail
  refine (l00From_any a0 x0.length ca _).mono ?_
  rintro e w2 ⟨rfl, hs, hz2⟩
  have HB := Lib.hid hs.below
  have HS := Lib.hid hs
  have hlt := hs.lt
  clear hs
  go_wp2_with fail
  refine (l16DrawBays_any w w.heap.size 0 (.slice a0 x0.length ca) x0 w2 h0 o0 HS.out (by omega)).mono ?_
  rintro e u1 ⟨xs, a1, c1, m1, rfl, hB1, hx1, hx2, m10, m11⟩
  have HB1 := Lib.hid hB1
  have hz1 := hB1.touch.size
  clear hB1 HS
  go_wp2_with fail
  refine (l16DrawList_any w w.heap.size m1 (.slice a0 x0.length ca) x0 _ h0 o0 HB1.out.src (by omega)).mono ?_
  rintro e u2 ⟨cs, a2, c2, m2, rfl, hC2, hc1, m20, m21⟩
  have HB2 := Lib.hid (HB1.out.draw hlt hC2.src hC2.touch)
  have HC2 := Lib.hid hC2
  have hz12 := hC2.touch.size
  clear hC2 HB1
  go_wp2_with fail
  refine (l16DrawBudget_any w w.heap.size m2 (.slice a0 x0.length ca) x0 _ h0 o0 HC2.out.src (by omega)).mono ?_
  rintro e w5 ⟨b, m5, rfl, hb, m50, m51, hs5, ht5⟩
  have HB5 := Lib.hid (HB2.out.draw hlt hs5 ht5)
  have HR := Lib.hid (owns_touch HC2.out.row ht5 (by omega))
  have HBD := Lib.hid hb
  have HSM := Lib.hid HC2.out.sm
  have HBL := Lib.hid (HB5.out.touch.below HB.out (Nat.le_refl _) (by omega))
  clear hs5 ht5 hb HC2 HB2
  go_wp2
  go_ret3
  exact ⟨xs, a1, c1, cs, a2, c2, b, rfl, Sl.of_owns HB5.out.row, Sl.of_owns HR.out, HB5.out.sm, HSM.out, hx2, hc1, HBD.out, HBL.out⟩

def Free5 (w : World) (e : Ending) (w' : World) : Prop := ∃ (xs : List BayD) (a1 : Option Addr) (c1 : Nat) (cs : List CasD) (a2 : Option Addr) (c2 : Nat) (pl : List Int) (a3 : Option Addr) (c3 : Nat) (bay t : Int), e = .returned (.tuple #[.slice a1 xs.length c1, .slice a2 cs.length c2, .slice a3 pl.length c3, .int .i64 bay, .int .i64 t]) ∧ RdBayDs w' (.slice a1 xs.length c1) xs ∧ RdCasDs w' (.slice a2 cs.length c2) cs ∧ Ints w' (.slice a3 pl.length c3) pl ∧ (∀ x ∈ xs, smP x) ∧ (∀ x ∈ cs, smC x) ∧ xs.length ≤ 12 ∧ cs.length ≤ 14 ∧ pl.length ≤ 30 ∧ Below w.heap.size w w'
set_option maxHeartbeats 1000000 in
theorem DrawFreeFrom_any (w : World) (v0 : Value) (x0 : List Int) (h0 : Byts w v0 x0) (o0 : okByts x0) :
    Calls Try.prog 12 #[v0] w (Free5 w) := by
  obtain ⟨a0, ca, rfl, _, _, _⟩ := id h0
  go_enter Try.func12, Try.ntmps12
  go_wp2_with fail
  refine (l00From_any a0 x0.length ca _).mono ?_
  rintro e w2 ⟨rfl, hs, hz2⟩
  have HB := Lib.hid hs.below
  have HS := Lib.hid hs
  have hlt := hs.lt
  clear hs
  go_wp2_with fail
  refine (l16DrawPlaces_any w w.heap.size 0 (.slice a0 x0.length ca) x0 w2 h0 o0 HS.out (by omega)).mono ?_
  rintro e u1 ⟨xs, a1, c1, cs, a2, c2, pl, a3, c3, m1, K, rfl, hP1, hx1, hx2, hc1, hp1, m10, m11⟩
  have HP1 := Lib.hid hP1
  clear hP1 HS
  have wr1 : IntKind.i64.wrap ((xs.length : Int) + 2) = (xs.length : Int) + 2 := IntWalk.i64_in _ (by omega)
  go_wp2_with fail
  refine (pick_any w w.heap.size m1 (.slice a0 x0.length ca) x0 ((xs.length : Int) + 2) _ h0 o0 HP1.out.b.src (by omega) (by omega) (by omega)).mono ?_
  rintro e u3 ⟨r, m3, rfl, r0, r1, m30, m31, hs, ht⟩
  have HP3 := Lib.hid (HP1.out.draw hlt hs ht)
  clear hs ht HP1
  have wr2 : IntKind.i64.wrap (r - 1) = r - 1 := IntWalk.i64_in _ (by omega)
  go_wp2_with fail
  refine (pick_any w w.heap.size m3 (.slice a0 x0.length ca) x0 2000 _ h0 o0 HP3.out.b.src (by omega) (by omega) (by omega)).mono ?_
  rintro e u4 ⟨t, m4, rfl, t0, t1, m40, m41, hs, ht⟩
  have HP4 := Lib.hid (HP3.out.draw hlt hs ht)
  clear hs ht HP3
  go_wp2_with fail
  refine (one_any w w.heap.size m4 (.slice a0 x0.length ca) x0 9 _ h0 o0 HP4.out.b.src (by omega) (by omega) (by omega)).mono ?_
  rintro e u5 ⟨b, m5, rfl, m50, m51, hs, ht⟩
  have HP := Lib.hid (HP4.out.draw hlt hs ht)
  clear hs ht HP4
  cases b
  · go_wp2
    refine bodyPost_ret (v := .tuple #[.slice a1 xs.length c1, .slice a2 cs.length c2, .slice a3 pl.length c3, .int .i64 (r - 1), .int .i64 t]) (by simp [results, Try.results12, go_sem]) rfl ⟨xs, a1, c1, cs, a2, c2, pl, a3, c3, r - 1, t, rfl, HP.out.rdB, HP.out.rdC, HP.out.rdP, HP.out.b.sm, HP.out.smc, hx2, hc1, hp1, HP.out.b.touch.below HB.out (Nat.le_refl _) (by omega)⟩
  · go_wp2_with fail
    refine (among_lit w w.heap.size m5 (.slice a0 x0.length ca) x0 [-1, 0, 1000000, 1000001] 4 u5.heap.size u5 h0 o0 HP.out.b.src (by omega) rfl rfl (by simp) (by simp)).mono ?_
    rintro e u6 ⟨r6, m6, rfl, rh, m60, m61, hs, ht⟩
    have HP := Lib.hid (HP.out.draw hlt hs ht)
    clear hs ht rh
    go_wp2
    refine bodyPost_ret (v := .tuple #[.slice a1 xs.length c1, .slice a2 cs.length c2, .slice a3 pl.length c3, .int .i64 (r - 1), .int .i64 r6]) (by simp [results, Try.results12, go_sem]) rfl ⟨xs, a1, c1, cs, a2, c2, pl, a3, c3, r - 1, r6, rfl, HP.out.rdB, HP.out.rdC, HP.out.rdP, HP.out.b.sm, HP.out.smc, hx2, hc1, hp1, HP.out.b.touch.below HB.out (Nat.le_refl _) (by omega)⟩


/-- What the searches' answers say of one another. -/
structure Ans (xs : List BayD) (cs : List CasD) (p1 p2 : List Int) (m c1 c2 : Int) : Prop where
  one : c1 = 0 → BaysOk xs ∧ CassOk cs ∧ PosOk xs cs p1
  two : c2 = 0 → BaysOk xs ∧ CassOk cs ∧ PosOk xs cs p2 ∧ m = (kd p2 : Int)
  less : c1 = 0 → c2 = 0 → m ≤ (kd p1 : Int)
  a : c1 = 0 → ¬ c2 = 3
  b : c1 = 3 → ¬ c2 = 0
theorem ans_of (xs : List BayD) (cs : List CasD) (n : Int) : Ans xs cs (fbV xs cs n) (fwV xs cs n) (fwM xs cs n) (fbC xs cs n) (fwC xs cs n) := by
  have L := bays_law xs cs n.toNat
  by_cases h : askB xs cs n = 0
  · have A := ask_zeroB.1 h
    have F1 : (fbR xs cs n).found = true → fbC xs cs n = 0 ∧ fbV xs cs n = (fbR xs cs n).pl := fun g => ⟨(fb_yes h g).2, (fb_yes h g).1⟩
    have F0 : (fbR xs cs n).found = false → (fbC xs cs n = 5 ∧ (fbR xs cs n).spent = true) ∨ (fbC xs cs n = 3 ∧ (fbR xs cs n).spent = false) := fun g => by
      have := (fb_no h g).2
      cases hs : (fbR xs cs n).spent
      · rw [hs] at this; exact .inr ⟨this, rfl⟩
      · rw [hs] at this; exact .inl ⟨this, rfl⟩
    have G1 : (fwR xs cs n).1.found = true → fwC xs cs n = 0 ∧ fwV xs cs n = (fwR xs cs n).1.pl ∧ fwM xs cs n = ((fwR xs cs n).2 : Int) := fun g => ⟨(fw_yes h g).2.2, (fw_yes h g).1, (fw_yes h g).2.1⟩
    have G0 : (fwR xs cs n).1.found = false → (fwC xs cs n = 5 ∧ (fwR xs cs n).1.spent = true) ∨ (fwC xs cs n = 3 ∧ (fwR xs cs n).1.spent = false) := fun g => by
      have := (fw_no h g).2.2
      cases hs : (fwR xs cs n).1.spent
      · rw [hs] at this; exact .inr ⟨this, rfl⟩
      · rw [hs] at this; exact .inl ⟨this, rfl⟩
    have e1 : runB xs cs xs.length cs.length [] n.toNat = fbR xs cs n := rfl
    have e2 : fewB xs cs (xs.length + 1) 0 n.toNat = fwR xs cs n := rfl
    rw [e1, e2] at L
    cases f1 : (fbR xs cs n).found
    · cases f2 : (fwR xs cs n).1.found
      · rcases F0 f1 with ⟨x1, _⟩ | ⟨x1, _⟩ <;> rcases G0 f2 with ⟨x2, _⟩ | ⟨x2, _⟩ <;> rw [x1, x2] <;> exact ⟨(fun h => by cases h), (fun h => by cases h), (fun h => by cases h), (fun h => by cases h), (fun _ h => by cases h)⟩
      · obtain ⟨x2, v2, y2⟩ := G1 f2
        have hb := L.best f2
        have hk := L.kinds f2
        rcases F0 f1 with ⟨x1, _⟩ | ⟨x1, s1⟩
        · rw [x1, x2, v2, y2]
          exact ⟨(fun h => by cases h), fun _ => ⟨A.bays, A.cass, hb, by rw [hk]⟩, (fun h => by cases h), (fun h => by cases h), (fun h => by cases h)⟩
        · have := L.none f1 s1; rw [f2] at this; cases this
    · obtain ⟨x1, v1⟩ := F1 f1
      have ho := L.first f1
      cases f2 : (fwR xs cs n).1.found
      · rcases G0 f2 with ⟨x2, _⟩ | ⟨x2, s2⟩
        · rw [x1, x2, v1]
          exact ⟨fun _ => ⟨A.bays, A.cass, ho⟩, (fun h => by cases h), (fun _ h => by cases h), (fun _ h => by cases h), (fun h => by cases h)⟩
        · have := L.some f1 f2; rw [s2] at this; cases this
      · obtain ⟨x2, v2, y2⟩ := G1 f2
        have hb := L.best f2
        have hk := L.kinds f2
        have hl := L.less f1 f2
        rw [x1, x2, v1, v2, y2]
        exact ⟨fun _ => ⟨A.bays, A.cass, ho⟩, fun _ => ⟨A.bays, A.cass, hb, by rw [hk]⟩, fun _ _ => by omega, (fun _ h => by cases h), (fun h => by cases h)⟩
  · have x1 := (fb_bad h).2
    have x2 := (fw_bad h).2.2
    have ha : askB xs cs n = 1 ∨ askB xs cs n = 2 := by
      unfold askB at h ⊢
      split
      · split
        · rename_i g1 g2
          rw [if_pos g1, if_pos g2] at h; exact absurd rfl h
        · exact .inr rfl
      · exact .inl rfl
    rw [x1, x2]
    exact ⟨(fun g => absurd g h), (fun g => absurd g h), (fun g => absurd g h), (fun g => absurd g h), (fun g => by omega)⟩

set_option maxHeartbeats 3000000 in
theorem lawBays (w : World) (v0 : Value) (x0 : List Int) (h0 : Byts w v0 x0) (o0 : okByts x0) (v1 : Value) (x1 : List Int) (h1 : Byts w v1 x1) (o1 : okByts x1) :
    Calls Try.prog 3 #[v0, v1] w fun e w' => e = .returned (.bool true) ∧ Below w.heap.size w w' := by
  obtain ⟨a0, ca, rfl, hca, hcm, _⟩ := id h0
  obtain ⟨a9, cb, rfl, hcb, hcn, _⟩ := id h1
  have hm : x0.length ≤ maxLen := by omega
  have hm1 : x1.length ≤ maxLen := by omega
  unfold maxLen at hm hm1
  clear hca hcm hcb hcn
  by_cases gl : x0.length ≤ 1048576
  rotate_left
  · have d1 : decide (1048576 < (x0.length : Int)) = true := by simp; omega
    go_enter Try.func3, Try.ntmps3
    go_wp2_with fail
    refine (b10Long_any a0 x0.length ca _ (by omega)).mono ?_
    rintro e w' ⟨rfl, rfl⟩
    go_wp2
    go_ret
    exact ⟨rfl, Below.refl _ _⟩
  by_cases gl2 : x1.length ≤ 1048576
  rotate_left
  · have d1 : decide (1048576 < (x0.length : Int)) = false := by simp; omega
    have d2 : decide (1048576 < (x1.length : Int)) = true := by simp; omega
    go_enter Try.func3, Try.ntmps3
    go_wp2_with fail
    refine (b10Long_any a0 x0.length ca _ (by omega)).mono ?_
    rintro e w' ⟨rfl, rfl⟩
    go_wp2_with fail
    refine (b10Long_any a9 x1.length cb _ (by omega)).mono ?_
    rintro e w' ⟨rfl, rfl⟩
    go_wp2
    go_ret
    exact ⟨rfl, Below.refl _ _⟩
  have d1 : decide (1048576 < (x0.length : Int)) = false := by simp; omega
  have d2 : decide (1048576 < (x1.length : Int)) = false := by simp; omega
  go_enter Try.func3, Try.ntmps3
  go_wp2_with fail
  refine (b10Long_any a0 x0.length ca _ (by omega)).mono ?_
  rintro e w' ⟨rfl, rfl⟩
  go_wp2_with fail
  refine (b10Long_any a9 x1.length cb _ (by omega)).mono ?_
  rintro e w' ⟨rfl, rfl⟩
  go_wp2_with fail
  clear d1 d2
  refine (DrawFewestBays_any w _ x0 h0 o0).mono ?_
  rintro e w1 ⟨xs, a1, c1, cs, a2, c2, b, rfl, hrb, hrc, smp1, smc1, hx, hc, hbd, hb1⟩
  have sz1 := szB_small smp1 hx
  have sz2 := szC_small smc1 hc
  have hi64 : I64 b := smB_i64 ⟨by omega, by omega⟩
  have okb : okBayDs xs := fun x hx => (smp1 x hx).ok
  have okc : okCasDs cs := fun x hx => (smc1 x hx).ok
  have RB1 := Lib.hid hrb; have RC1 := Lib.hid hrc
  have OB3 := Lib.hid okb; have OC3 := Lib.hid okc
  have HA := Lib.hid (ans_of xs cs b)
  have HL1 := Lib.hid (fbV_len (x0 := xs) (x1 := cs) (n := b))
  have HL2 := Lib.hid (fwV_len (x0 := xs) (x1 := cs) (n := b))
  clear hrb hrc smp1 smc1
  go_wp2_with fail
  refine (implFirstBays_any _ xs _ cs b _ RB1.out okb sz1 RC1.out okc sz2 hi64).mono ?_
  rintro e w2 ⟨v2, rfl, ho2, hb2⟩
  obtain ⟨p1, hp1⟩ : ∃ p1, p1 = fbV xs cs b := ⟨_, rfl⟩
  obtain ⟨k1, hk1⟩ : ∃ k1, k1 = fbC xs cs b := ⟨_, rfl⟩
  rw [← hp1] at ho2
  rw [← hk1]
  obtain ⟨a3, c3, rfl⟩ := ho2.form
  have RB2 := RB1.out.mono hb2; have RC2 := RC1.out.mono hb2
  have hB2 := hb1.trans (hb2.mono hb1.size)
  have HP1 := Lib.hid hp1; have HK1 := Lib.hid hk1
  clear hp1 hk1
  go_wp2_with fail
  refine (implFewestBays_any _ xs _ cs b _ RB2 okb sz1 RC2 okc sz2 hi64).mono ?_
  rintro e w3 ⟨v3, rfl, ho3, hb3⟩
  obtain ⟨p2, hp2⟩ : ∃ p2, p2 = fwV xs cs b := ⟨_, rfl⟩
  obtain ⟨m, hm'⟩ : ∃ m, m = fwM xs cs b := ⟨_, rfl⟩
  obtain ⟨k2, hk2⟩ : ∃ k2, k2 = fwC xs cs b := ⟨_, rfl⟩
  rw [← hp2] at ho3
  rw [← hm', ← hk2]
  obtain ⟨a4, c4, rfl⟩ := ho3.form
  have RB3 := Lib.hid (RB2.mono hb3); have RC3 := Lib.hid (RC2.mono hb3)
  have RI1 := Lib.hid (Ints.mono ho2.rd hb3); have RI2 := Lib.hid ho3.rd
  have HA := Lib.hid (show Ans xs cs p1 p2 m k1 k2 by rw [HP1.out, hp2, hm', HK1.out, hk2]; exact HA.out)
  have hl1 : p1.length ≤ 12 := by rw [HP1.out]; exact HL1.out
  have hl2 : p2.length ≤ 12 := by rw [hp2]; exact HL2.out
  have HB3 := Lib.hid (hB2.trans (hb3.mono hB2.size))
  clear HP1 HK1 hp2 hm' hk2 ho2 ho3 RB2 RC2 hb3 hb2 hb1 hB2 hi64 sz1 sz2 okb okc RB1 RC1
  by_cases e1 : k1 = 0
  · subst e1
    have A1 := Lib.hid (HA.out.one rfl)
    by_cases e2 : k2 = 0
    · subst e2
      have A2 := Lib.hid (HA.out.two rfl)
      have AL := Lib.hid (HA.out.less rfl rfl)
      go_wp2_with fail
      refine (CheckBays_yes _ _ _ xs cs p1 _ RB3.out OB3.out RC3.out OC3.out RI1.out A1.out.1 A1.out.2.1 A1.out.2.2).mono ?_
      rintro e w4 ⟨rfl, hb4⟩
      go_wp2_with fail
      refine (CheckBays_yes _ _ _ xs cs p2 _ (RB3.out.mono hb4) OB3.out (RC3.out.mono hb4) OC3.out (Ints.mono RI2.out hb4) A2.out.1 A2.out.2.1 A2.out.2.2.1).mono ?_
      rintro e w5 ⟨rfl, hb5⟩
      have hb35 := hb4.trans (hb5.mono hb4.size)
      clear hb4 hb5
      go_wp2_with fail
      refine (b10Kinds_any _ p1 _ (Ints.mono RI1.out hb35) (by omega)).mono ?_
      rintro e w6 ⟨rfl, hb6⟩
      have hb36 := hb35.trans (hb6.mono hb35.size)
      obtain ⟨q1, hq1⟩ : ∃ q : Int, q = (kd p1 : Int) := ⟨_, rfl⟩
      rw [← hq1]
      have dg : decide (q1 < m) = false := decide_eq_false (by have := AL.out; omega)
      clear hb35 hb6 hq1
      go_wp2_with fail
      refine (b10Kinds_any _ p2 _ (Ints.mono RI2.out hb36) (by omega)).mono ?_
      rintro e w7 ⟨rfl, hb7⟩
      have hb37 := hb36.trans (hb7.mono hb36.size)
      rw [← A2.out.2.2.2]
      have dn : (m != m) = false := by simp
      have HB := Lib.hid (HB3.out.trans (hb37.mono HB3.out.size))
      clear hb36 hb7 hb37
      go_wp2_with fail
      refine (DrawFreeFrom_any _ _ x1 (Byts.mono h1 HB.out) o1).mono ?_
      rintro e w9 ⟨ys, a5, c5, ds, a6, c6, pl, a7, c7, bay, t, rfl, hrb, hrc, hrp, smp9, smc9, hy1, hd1, hp1, hb9⟩
      have HB9 := Lib.hid (HB.out.trans (hb9.mono HB.out.size))
      have RB := Lib.hid hrb; have RC := Lib.hid hrc; have RP := Lib.hid hrp
      have OB := Lib.hid (show okBayDs ys from fun x hx => (smp9 x hx).ok); have OC := Lib.hid (show okCasDs ds from fun x hx => (smc9 x hx).ok)
      clear hrb hrc hrp smp9 smc9 hb9 HB
      go_wp2_with fail
      refine (FreeFrom_any _ _ _ ys ds pl bay t _ RB.out OB.out RC.out OC.out RP.out).mono ?_
      rintro e w10 ⟨f, c, rfl, hbad, hgood, hb10⟩
      have HB10 := Lib.hid (HB9.out.trans (hb10.mono HB9.out.size))
      have HBB := Lib.hid hb10
      have HBAD := Lib.hid hbad; have HGOOD := Lib.hid hgood
      clear hb10 hbad hgood
      by_cases gc : c = 0
      · subst gc
        obtain ⟨hcass, hlen, htf, hq⟩ := HGOOD.out (by simp)
        have HC := Lib.hid hcass; have HL := Lib.hid hlen; have HQ := Lib.hid hq
        have dt : decide (f < t) = false := decide_eq_false (by omega)
        clear hcass hlen hq htf
        go_wp2_with fail
        go_loopw [20] (fun iv wr => ∃ i : Nat, i ≤ ds.length ∧ iv = .int .i64 i ∧ Below w10.heap.size w10 wr) (fun iv _ => ds.length - (intOf iv).toNat)
        case atStart => exact ⟨0, Nat.zero_le _, by go_num, Below.refl _ _⟩
        case round =>
          obtain ⟨i, hi, rfl, hbr⟩ := hrel
          by_cases hlt : i < ds.length
          · have hlt2 : i < pl.length := by have := HL.out; omega
            have RC2 := RdCasDs.mono (RC.out.mono HBB.out) hbr
            obtain ⟨b3, o3, rfl, l3, x0', x1', x2', x3', x4'⟩ := RC2.at hlt
            have RP2 := Ints.mono (Ints.mono RP.out HBB.out) hbr
            obtain ⟨b4, o4, rfl, cp⟩ := RP2.cells (by simp; omega)
            have p0 : wr.cell? ⟨b4, o4 + i, none⟩ = some (.int .i64 pl[i]) := cp i _ (by simp [hlt2])
            have P0 := Lib.hid p0; have X4 := Lib.hid x4'
            have lp4 := World.block_lt_of_cell? wr _ p0
            have hob := (OC.out _ (List.getElem_mem hlt)).1
            have hqi := HQ.out i hlt
            unfold quietAt at hqi
            rw [getD_int hlt2, getD_cas hlt] at hqi
            have HQI := Lib.hid hqi
            clear cp RC2 RP2 hqi p0
            go_wp2_with fail
            refine (StripTime_yes ds[i] _ (HC.out.ok hlt) hob).mono ?_
            rintro e w11 ⟨rfl, hb11⟩
            have p0 := cellB hb11 P0.out
            have x4 := cellB hb11 X4.out
            obtain ⟨o, ho⟩ : ∃ o, o = stripV ds[i] := ⟨_, rfl⟩
            rw [← ho]
            have HO := Lib.hid ho
            have hbr2 := hbr.trans (hb11.mono hbr.size)
            clear x0' x1' x2' x3' x4' l3 ho hb11
            by_cases g1 : pl[i] = bay
            · have d1 : (pl[i] == bay) = true := by simpa using g1
              by_cases g2 : ds[i].since ≤ f
              · have g3 : ¬ f < o := fun h => HQI.out g1 ⟨g2, by rw [← HO.out]; omega⟩
                have d2 : decide (ds[i].since ≤ f) = true := by simpa using g2
                have d3 : decide (f < o) = false := by simpa using g3
                clear g1
                go_wp2
                go_roundw
                case rel => exact ⟨i + 1, by omega, by go_num, hbr2⟩
                case measure => simp [intOf]; omega
              · have d2 : decide (ds[i].since ≤ f) = false := by simpa using g2
                clear g1
                go_wp2
                go_roundw
                case rel => exact ⟨i + 1, by omega, by go_num, hbr2⟩
                case measure => simp [intOf]; omega
            · have d1 : (pl[i] == bay) = false := by simpa using g1
              clear g1
              go_wp2
              go_roundw
              case rel => exact ⟨i + 1, by omega, by go_num, hbr2⟩
              case measure => simp [intOf]; omega
          · obtain rfl : i = ds.length := by omega
            go_wp2
            go_ret
            exact ⟨rfl, HB10.out.trans (hbr.mono HB10.out.size)⟩
      · have hf := HBAD.out gc
        have dc : (c != 0) = true := by simpa using gc
        subst hf
        go_wp2
        go_ret
        exact ⟨rfl, HB10.out⟩
    · have e23 : ¬ k2 = 3 := HA.out.a rfl
      have d20 : (k2 == 0) = false := by simpa using e2
      have d23 : (k2 == 3) = false := by simpa using e23
      go_wp2_with fail
      refine (CheckBays_yes _ _ _ xs cs p1 _ RB3.out OB3.out RC3.out OC3.out RI1.out A1.out.1 A1.out.2.1 A1.out.2.2).mono ?_
      rintro e w4 ⟨rfl, hb4⟩
      have HB := Lib.hid (HB3.out.trans (hb4.mono HB3.out.size))
      clear hb4
      go_wp2_with fail
      refine (DrawFreeFrom_any _ _ x1 (Byts.mono h1 HB.out) o1).mono ?_
      rintro e w9 ⟨ys, a5, c5, ds, a6, c6, pl, a7, c7, bay, t, rfl, hrb, hrc, hrp, smp9, smc9, hy1, hd1, hp1, hb9⟩
      have HB9 := Lib.hid (HB.out.trans (hb9.mono HB.out.size))
      have RB := Lib.hid hrb; have RC := Lib.hid hrc; have RP := Lib.hid hrp
      have OB := Lib.hid (show okBayDs ys from fun x hx => (smp9 x hx).ok); have OC := Lib.hid (show okCasDs ds from fun x hx => (smc9 x hx).ok)
      clear hrb hrc hrp smp9 smc9 hb9 HB
      go_wp2_with fail
      refine (FreeFrom_any _ _ _ ys ds pl bay t _ RB.out OB.out RC.out OC.out RP.out).mono ?_
      rintro e w10 ⟨f, c, rfl, hbad, hgood, hb10⟩
      have HB10 := Lib.hid (HB9.out.trans (hb10.mono HB9.out.size))
      have HBB := Lib.hid hb10
      have HBAD := Lib.hid hbad; have HGOOD := Lib.hid hgood
      clear hb10 hbad hgood
      by_cases gc : c = 0
      · subst gc
        obtain ⟨hcass, hlen, htf, hq⟩ := HGOOD.out (by simp)
        have HC := Lib.hid hcass; have HL := Lib.hid hlen; have HQ := Lib.hid hq
        have dt : decide (f < t) = false := decide_eq_false (by omega)
        clear hcass hlen hq htf
        go_wp2_with fail
        go_loopw [20] (fun iv wr => ∃ i : Nat, i ≤ ds.length ∧ iv = .int .i64 i ∧ Below w10.heap.size w10 wr) (fun iv _ => ds.length - (intOf iv).toNat)
        case atStart => exact ⟨0, Nat.zero_le _, by go_num, Below.refl _ _⟩
        case round =>
          obtain ⟨i, hi, rfl, hbr⟩ := hrel
          by_cases hlt : i < ds.length
          · have hlt2 : i < pl.length := by have := HL.out; omega
            have RC2 := RdCasDs.mono (RC.out.mono HBB.out) hbr
            obtain ⟨b3, o3, rfl, l3, x0', x1', x2', x3', x4'⟩ := RC2.at hlt
            have RP2 := Ints.mono (Ints.mono RP.out HBB.out) hbr
            obtain ⟨b4, o4, rfl, cp⟩ := RP2.cells (by simp; omega)
            have p0 : wr.cell? ⟨b4, o4 + i, none⟩ = some (.int .i64 pl[i]) := cp i _ (by simp [hlt2])
            have P0 := Lib.hid p0; have X4 := Lib.hid x4'
            have lp4 := World.block_lt_of_cell? wr _ p0
            have hob := (OC.out _ (List.getElem_mem hlt)).1
            have hqi := HQ.out i hlt
            unfold quietAt at hqi
            rw [getD_int hlt2, getD_cas hlt] at hqi
            have HQI := Lib.hid hqi
            clear cp RC2 RP2 hqi p0
            go_wp2_with fail
            refine (StripTime_yes ds[i] _ (HC.out.ok hlt) hob).mono ?_
            rintro e w11 ⟨rfl, hb11⟩
            have p0 := cellB hb11 P0.out
            have x4 := cellB hb11 X4.out
            obtain ⟨o, ho⟩ : ∃ o, o = stripV ds[i] := ⟨_, rfl⟩
            rw [← ho]
            have HO := Lib.hid ho
            have hbr2 := hbr.trans (hb11.mono hbr.size)
            clear x0' x1' x2' x3' x4' l3 ho hb11
            by_cases g1 : pl[i] = bay
            · have d1 : (pl[i] == bay) = true := by simpa using g1
              by_cases g2 : ds[i].since ≤ f
              · have g3 : ¬ f < o := fun h => HQI.out g1 ⟨g2, by rw [← HO.out]; omega⟩
                have d2 : decide (ds[i].since ≤ f) = true := by simpa using g2
                have d3 : decide (f < o) = false := by simpa using g3
                clear g1
                go_wp2
                go_roundw
                case rel => exact ⟨i + 1, by omega, by go_num, hbr2⟩
                case measure => simp [intOf]; omega
              · have d2 : decide (ds[i].since ≤ f) = false := by simpa using g2
                clear g1
                go_wp2
                go_roundw
                case rel => exact ⟨i + 1, by omega, by go_num, hbr2⟩
                case measure => simp [intOf]; omega
            · have d1 : (pl[i] == bay) = false := by simpa using g1
              clear g1
              go_wp2
              go_roundw
              case rel => exact ⟨i + 1, by omega, by go_num, hbr2⟩
              case measure => simp [intOf]; omega
          · obtain rfl : i = ds.length := by omega
            go_wp2
            go_ret
            exact ⟨rfl, HB10.out.trans (hbr.mono HB10.out.size)⟩
      · have hf := HBAD.out gc
        have dc : (c != 0) = true := by simpa using gc
        subst hf
        go_wp2
        go_ret
        exact ⟨rfl, HB10.out⟩
  · have d10 : (k1 == 0) = false := by simpa using e1
    by_cases e2 : k2 = 0
    · subst e2
      have A2 := Lib.hid (HA.out.two rfl)
      have e13 : ¬ k1 = 3 := fun h => HA.out.b h rfl
      have d13 : (k1 == 3) = false := by simpa using e13
      go_wp2_with fail
      refine (CheckBays_yes _ _ _ xs cs p2 _ RB3.out OB3.out RC3.out OC3.out RI2.out A2.out.1 A2.out.2.1 A2.out.2.2.1).mono ?_
      rintro e w4 ⟨rfl, hb4⟩
      go_wp2_with fail
      refine (b10Kinds_any _ p2 _ (Ints.mono RI2.out hb4) (by omega)).mono ?_
      rintro e w7 ⟨rfl, hb7⟩
      have hb37 := hb4.trans (hb7.mono hb4.size)
      rw [← A2.out.2.2.2]
      have dn : (m != m) = false := by simp
      have HB := Lib.hid (HB3.out.trans (hb37.mono HB3.out.size))
      clear hb4 hb7 hb37
      go_wp2_with fail
      refine (DrawFreeFrom_any _ _ x1 (Byts.mono h1 HB.out) o1).mono ?_
      rintro e w9 ⟨ys, a5, c5, ds, a6, c6, pl, a7, c7, bay, t, rfl, hrb, hrc, hrp, smp9, smc9, hy1, hd1, hp1, hb9⟩
      have HB9 := Lib.hid (HB.out.trans (hb9.mono HB.out.size))
      have RB := Lib.hid hrb; have RC := Lib.hid hrc; have RP := Lib.hid hrp
      have OB := Lib.hid (show okBayDs ys from fun x hx => (smp9 x hx).ok); have OC := Lib.hid (show okCasDs ds from fun x hx => (smc9 x hx).ok)
      clear hrb hrc hrp smp9 smc9 hb9 HB
      go_wp2_with fail
      refine (FreeFrom_any _ _ _ ys ds pl bay t _ RB.out OB.out RC.out OC.out RP.out).mono ?_
      rintro e w10 ⟨f, c, rfl, hbad, hgood, hb10⟩
      have HB10 := Lib.hid (HB9.out.trans (hb10.mono HB9.out.size))
      have HBB := Lib.hid hb10
      have HBAD := Lib.hid hbad; have HGOOD := Lib.hid hgood
      clear hb10 hbad hgood
      by_cases gc : c = 0
      · subst gc
        obtain ⟨hcass, hlen, htf, hq⟩ := HGOOD.out (by simp)
        have HC := Lib.hid hcass; have HL := Lib.hid hlen; have HQ := Lib.hid hq
        have dt : decide (f < t) = false := decide_eq_false (by omega)
        clear hcass hlen hq htf
        go_wp2_with fail
        go_loopw [20] (fun iv wr => ∃ i : Nat, i ≤ ds.length ∧ iv = .int .i64 i ∧ Below w10.heap.size w10 wr) (fun iv _ => ds.length - (intOf iv).toNat)
        case atStart => exact ⟨0, Nat.zero_le _, by go_num, Below.refl _ _⟩
        case round =>
          obtain ⟨i, hi, rfl, hbr⟩ := hrel
          by_cases hlt : i < ds.length
          · have hlt2 : i < pl.length := by have := HL.out; omega
            have RC2 := RdCasDs.mono (RC.out.mono HBB.out) hbr
            obtain ⟨b3, o3, rfl, l3, x0', x1', x2', x3', x4'⟩ := RC2.at hlt
            have RP2 := Ints.mono (Ints.mono RP.out HBB.out) hbr
            obtain ⟨b4, o4, rfl, cp⟩ := RP2.cells (by simp; omega)
            have p0 : wr.cell? ⟨b4, o4 + i, none⟩ = some (.int .i64 pl[i]) := cp i _ (by simp [hlt2])
            have P0 := Lib.hid p0; have X4 := Lib.hid x4'
            have lp4 := World.block_lt_of_cell? wr _ p0
            have hob := (OC.out _ (List.getElem_mem hlt)).1
            have hqi := HQ.out i hlt
            unfold quietAt at hqi
            rw [getD_int hlt2, getD_cas hlt] at hqi
            have HQI := Lib.hid hqi
            clear cp RC2 RP2 hqi p0
            go_wp2_with fail
            refine (StripTime_yes ds[i] _ (HC.out.ok hlt) hob).mono ?_
            rintro e w11 ⟨rfl, hb11⟩
            have p0 := cellB hb11 P0.out
            have x4 := cellB hb11 X4.out
            obtain ⟨o, ho⟩ : ∃ o, o = stripV ds[i] := ⟨_, rfl⟩
            rw [← ho]
            have HO := Lib.hid ho
            have hbr2 := hbr.trans (hb11.mono hbr.size)
            clear x0' x1' x2' x3' x4' l3 ho hb11
            by_cases g1 : pl[i] = bay
            · have d1 : (pl[i] == bay) = true := by simpa using g1
              by_cases g2 : ds[i].since ≤ f
              · have g3 : ¬ f < o := fun h => HQI.out g1 ⟨g2, by rw [← HO.out]; omega⟩
                have d2 : decide (ds[i].since ≤ f) = true := by simpa using g2
                have d3 : decide (f < o) = false := by simpa using g3
                clear g1
                go_wp2
                go_roundw
                case rel => exact ⟨i + 1, by omega, by go_num, hbr2⟩
                case measure => simp [intOf]; omega
              · have d2 : decide (ds[i].since ≤ f) = false := by simpa using g2
                clear g1
                go_wp2
                go_roundw
                case rel => exact ⟨i + 1, by omega, by go_num, hbr2⟩
                case measure => simp [intOf]; omega
            · have d1 : (pl[i] == bay) = false := by simpa using g1
              clear g1
              go_wp2
              go_roundw
              case rel => exact ⟨i + 1, by omega, by go_num, hbr2⟩
              case measure => simp [intOf]; omega
          · obtain rfl : i = ds.length := by omega
            go_wp2
            go_ret
            exact ⟨rfl, HB10.out.trans (hbr.mono HB10.out.size)⟩
      · have hf := HBAD.out gc
        have dc : (c != 0) = true := by simpa using gc
        subst hf
        go_wp2
        go_ret
        exact ⟨rfl, HB10.out⟩
    · have d20 : (k2 == 0) = false := by simpa using e2
      by_cases e13 : k1 = 3
      · have d13 : (k1 == 3) = true := by simpa using e13
        have HB := HB3
        clear e13
        go_wp2_with fail
        refine (DrawFreeFrom_any _ _ x1 (Byts.mono h1 HB.out) o1).mono ?_
        rintro e w9 ⟨ys, a5, c5, ds, a6, c6, pl, a7, c7, bay, t, rfl, hrb, hrc, hrp, smp9, smc9, hy1, hd1, hp1, hb9⟩
        have HB9 := Lib.hid (HB.out.trans (hb9.mono HB.out.size))
        have RB := Lib.hid hrb; have RC := Lib.hid hrc; have RP := Lib.hid hrp
        have OB := Lib.hid (show okBayDs ys from fun x hx => (smp9 x hx).ok); have OC := Lib.hid (show okCasDs ds from fun x hx => (smc9 x hx).ok)
        clear hrb hrc hrp smp9 smc9 hb9 HB
        go_wp2_with fail
        refine (FreeFrom_any _ _ _ ys ds pl bay t _ RB.out OB.out RC.out OC.out RP.out).mono ?_
        rintro e w10 ⟨f, c, rfl, hbad, hgood, hb10⟩
        have HB10 := Lib.hid (HB9.out.trans (hb10.mono HB9.out.size))
        have HBB := Lib.hid hb10
        have HBAD := Lib.hid hbad; have HGOOD := Lib.hid hgood
        clear hb10 hbad hgood
        by_cases gc : c = 0
        · subst gc
          obtain ⟨hcass, hlen, htf, hq⟩ := HGOOD.out (by simp)
          have HC := Lib.hid hcass; have HL := Lib.hid hlen; have HQ := Lib.hid hq
          have dt : decide (f < t) = false := decide_eq_false (by omega)
          clear hcass hlen hq htf
          go_wp2_with fail
          go_loopw [20] (fun iv wr => ∃ i : Nat, i ≤ ds.length ∧ iv = .int .i64 i ∧ Below w10.heap.size w10 wr) (fun iv _ => ds.length - (intOf iv).toNat)
          case atStart => exact ⟨0, Nat.zero_le _, by go_num, Below.refl _ _⟩
          case round =>
            obtain ⟨i, hi, rfl, hbr⟩ := hrel
            by_cases hlt : i < ds.length
            · have hlt2 : i < pl.length := by have := HL.out; omega
              have RC2 := RdCasDs.mono (RC.out.mono HBB.out) hbr
              obtain ⟨b3, o3, rfl, l3, x0', x1', x2', x3', x4'⟩ := RC2.at hlt
              have RP2 := Ints.mono (Ints.mono RP.out HBB.out) hbr
              obtain ⟨b4, o4, rfl, cp⟩ := RP2.cells (by simp; omega)
              have p0 : wr.cell? ⟨b4, o4 + i, none⟩ = some (.int .i64 pl[i]) := cp i _ (by simp [hlt2])
              have P0 := Lib.hid p0; have X4 := Lib.hid x4'
              have lp4 := World.block_lt_of_cell? wr _ p0
              have hob := (OC.out _ (List.getElem_mem hlt)).1
              have hqi := HQ.out i hlt
              unfold quietAt at hqi
              rw [getD_int hlt2, getD_cas hlt] at hqi
              have HQI := Lib.hid hqi
              clear cp RC2 RP2 hqi p0
              go_wp2_with fail
              refine (StripTime_yes ds[i] _ (HC.out.ok hlt) hob).mono ?_
              rintro e w11 ⟨rfl, hb11⟩
              have p0 := cellB hb11 P0.out
              have x4 := cellB hb11 X4.out
              obtain ⟨o, ho⟩ : ∃ o, o = stripV ds[i] := ⟨_, rfl⟩
              rw [← ho]
              have HO := Lib.hid ho
              have hbr2 := hbr.trans (hb11.mono hbr.size)
              clear x0' x1' x2' x3' x4' l3 ho hb11
              by_cases g1 : pl[i] = bay
              · have d1 : (pl[i] == bay) = true := by simpa using g1
                by_cases g2 : ds[i].since ≤ f
                · have g3 : ¬ f < o := fun h => HQI.out g1 ⟨g2, by rw [← HO.out]; omega⟩
                  have d2 : decide (ds[i].since ≤ f) = true := by simpa using g2
                  have d3 : decide (f < o) = false := by simpa using g3
                  clear g1
                  go_wp2
                  go_roundw
                  case rel => exact ⟨i + 1, by omega, by go_num, hbr2⟩
                  case measure => simp [intOf]; omega
                · have d2 : decide (ds[i].since ≤ f) = false := by simpa using g2
                  clear g1
                  go_wp2
                  go_roundw
                  case rel => exact ⟨i + 1, by omega, by go_num, hbr2⟩
                  case measure => simp [intOf]; omega
              · have d1 : (pl[i] == bay) = false := by simpa using g1
                clear g1
                go_wp2
                go_roundw
                case rel => exact ⟨i + 1, by omega, by go_num, hbr2⟩
                case measure => simp [intOf]; omega
            · obtain rfl : i = ds.length := by omega
              go_wp2
              go_ret
              exact ⟨rfl, HB10.out.trans (hbr.mono HB10.out.size)⟩
        · have hf := HBAD.out gc
          have dc : (c != 0) = true := by simpa using gc
          subst hf
          go_wp2
          go_ret
          exact ⟨rfl, HB10.out⟩
      · have d13 : (k1 == 3) = false := by simpa using e13
        have HB := HB3
        go_wp2_with fail
        refine (DrawFreeFrom_any _ _ x1 (Byts.mono h1 HB.out) o1).mono ?_
        rintro e w9 ⟨ys, a5, c5, ds, a6, c6, pl, a7, c7, bay, t, rfl, hrb, hrc, hrp, smp9, smc9, hy1, hd1, hp1, hb9⟩
        have HB9 := Lib.hid (HB.out.trans (hb9.mono HB.out.size))
        have RB := Lib.hid hrb; have RC := Lib.hid hrc; have RP := Lib.hid hrp
        have OB := Lib.hid (show okBayDs ys from fun x hx => (smp9 x hx).ok); have OC := Lib.hid (show okCasDs ds from fun x hx => (smc9 x hx).ok)
        clear hrb hrc hrp smp9 smc9 hb9 HB
        go_wp2_with fail
        refine (FreeFrom_any _ _ _ ys ds pl bay t _ RB.out OB.out RC.out OC.out RP.out).mono ?_
        rintro e w10 ⟨f, c, rfl, hbad, hgood, hb10⟩
        have HB10 := Lib.hid (HB9.out.trans (hb10.mono HB9.out.size))
        have HBB := Lib.hid hb10
        have HBAD := Lib.hid hbad; have HGOOD := Lib.hid hgood
        clear hb10 hbad hgood
        by_cases gc : c = 0
        · subst gc
          obtain ⟨hcass, hlen, htf, hq⟩ := HGOOD.out (by simp)
          have HC := Lib.hid hcass; have HL := Lib.hid hlen; have HQ := Lib.hid hq
          have dt : decide (f < t) = false := decide_eq_false (by omega)
          clear hcass hlen hq htf
          go_wp2_with fail
          go_loopw [20] (fun iv wr => ∃ i : Nat, i ≤ ds.length ∧ iv = .int .i64 i ∧ Below w10.heap.size w10 wr) (fun iv _ => ds.length - (intOf iv).toNat)
          case atStart => exact ⟨0, Nat.zero_le _, by go_num, Below.refl _ _⟩
          case round =>
            obtain ⟨i, hi, rfl, hbr⟩ := hrel
            by_cases hlt : i < ds.length
            · have hlt2 : i < pl.length := by have := HL.out; omega
              have RC2 := RdCasDs.mono (RC.out.mono HBB.out) hbr
              obtain ⟨b3, o3, rfl, l3, x0', x1', x2', x3', x4'⟩ := RC2.at hlt
              have RP2 := Ints.mono (Ints.mono RP.out HBB.out) hbr
              obtain ⟨b4, o4, rfl, cp⟩ := RP2.cells (by simp; omega)
              have p0 : wr.cell? ⟨b4, o4 + i, none⟩ = some (.int .i64 pl[i]) := cp i _ (by simp [hlt2])
              have P0 := Lib.hid p0; have X4 := Lib.hid x4'
              have lp4 := World.block_lt_of_cell? wr _ p0
              have hob := (OC.out _ (List.getElem_mem hlt)).1
              have hqi := HQ.out i hlt
              unfold quietAt at hqi
              rw [getD_int hlt2, getD_cas hlt] at hqi
              have HQI := Lib.hid hqi
              clear cp RC2 RP2 hqi p0
              go_wp2_with fail
              refine (StripTime_yes ds[i] _ (HC.out.ok hlt) hob).mono ?_
              rintro e w11 ⟨rfl, hb11⟩
              have p0 := cellB hb11 P0.out
              have x4 := cellB hb11 X4.out
              obtain ⟨o, ho⟩ : ∃ o, o = stripV ds[i] := ⟨_, rfl⟩
              rw [← ho]
              have HO := Lib.hid ho
              have hbr2 := hbr.trans (hb11.mono hbr.size)
              clear x0' x1' x2' x3' x4' l3 ho hb11
              by_cases g1 : pl[i] = bay
              · have d1 : (pl[i] == bay) = true := by simpa using g1
                by_cases g2 : ds[i].since ≤ f
                · have g3 : ¬ f < o := fun h => HQI.out g1 ⟨g2, by rw [← HO.out]; omega⟩
                  have d2 : decide (ds[i].since ≤ f) = true := by simpa using g2
                  have d3 : decide (f < o) = false := by simpa using g3
                  clear g1
                  go_wp2
                  go_roundw
                  case rel => exact ⟨i + 1, by omega, by go_num, hbr2⟩
                  case measure => simp [intOf]; omega
                · have d2 : decide (ds[i].since ≤ f) = false := by simpa using g2
                  clear g1
                  go_wp2
                  go_roundw
                  case rel => exact ⟨i + 1, by omega, by go_num, hbr2⟩
                  case measure => simp [intOf]; omega
              · have d1 : (pl[i] == bay) = false := by simpa using g1
                clear g1
                go_wp2
                go_roundw
                case rel => exact ⟨i + 1, by omega, by go_num, hbr2⟩
                case measure => simp [intOf]; omega
            · obtain rfl : i = ds.length := by omega
              go_wp2
              go_ret
              exact ⟨rfl, HB10.out.trans (hbr.mono HB10.out.size)⟩
        · have hf := HBAD.out gc
          have dc : (c != 0) = true := by simpa using gc
          subst hf
          go_wp2
          go_ret
          exact ⟨rfl, HB10.out⟩

end Go.Proofs.Yteaijhmgfddjiaa
