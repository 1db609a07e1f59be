/- FewestBays of both packages. -/
import Derived.Test.YteaijhmgfddjiaaBayF
import Derived.OwnWalk
set_option linter.unusedSimpArgs false
set_option linter.unnecessarySimpa false
set_option linter.unusedVariables false
set_option maxRecDepth 100000
namespace Go.Proofs.Yteaijhmgfddjiaa
open Go.RowKit

/-- A number read from an object. -/
def mostOf (w : World) (p0 j : Nat) : Nat := match w.cell? ⟨p0, j, none⟩ with | some v => (intOf v).toNat | none => 0
theorem mostOf_eq {w : World} {p0 j k : Nat} (h : w.cell? ⟨p0, j, none⟩ = some (.int .i64 (k : Int))) : mostOf w p0 j = k := by
  unfold mostOf; rw [h]; simp [intOf]

set_option maxHeartbeats 2000000 in
theorem implFewestBays_any (v0 : Value) (x0 : List BayD) (v1 : Value) (x1 : List CasD) (n : Int) (w : World) (h0 : RdBayDs w v0 x0) (o0 : okBayDs x0) (_ : szBayDs x0 ≤ 1048576) (h1 : RdCasDs w v1 x1) (o1 : okCasDs x1) (_ : szCasDs x1 ≤ 1048576) (_ : I64 n) :
    Calls Try.prog 9 #[v0, v1, .int .i64 n] w fun e w' => ∃ v, e = .returned (.tuple #[v, .int .i64 (fwM x0 x1 n), .int .i64 (fwC x0 x1 n)]) ∧ OwnInts w.heap.size w'.heap.size w' v (fwV x0 x1 n) ∧ Below w.heap.size w w' := by
  obtain ⟨a0, c0, rfl⟩ := h0.form
  obtain ⟨a1, c1, rfl⟩ := h1.form
  by_cases g : askB x0 x1 n = 0
  · have A := ask_zeroB.1 g
    obtain ⟨m, rfl⟩ : ∃ m : Nat, n = m := ⟨n.toNat, by have := A.low; omega⟩
    have hm : (m : Int) ≤ 20000 := A.high
    have hnb : x0.length ≤ 8 := A.bays.len
    have HA := Lib.hid A; have G := Lib.hid g
    clear A g
    go_enter Try.func9, Try.ntmps9
    go_wp2_with fail
    refine (searched_ok _ x0 _ x1 m _ h0 o0 h1 o1 HA.out).mono ?_
    rintro e w2 ⟨w1, rfl, hb1, hP⟩
    obtain ⟨p0, hp0⟩ : ∃ p0, p0 = w1.heap.size := ⟨_, rfl⟩
    rw [← hp0] at hP ⊢
    have HP0 := Lib.hid hp0; clear hp0
    have HB1 := Lib.hid hb1
    obtain ⟨ap, cap, hB, hr, hbw⟩ := hP
    have c4 := hB.at' 4 _ rfl
    have f4 := hB.fr 4
    have l0 := hB.lt
    go_wp2_with fail
    obtain ⟨q1, q2, q3⟩ := set_box hB hr hbw (.int .i64 ((0 : Nat) : Int)) (j := 4) (by simp [fI])
    have hP3 : Plc (fI (.slice a0 x0.length c0) (.slice a1 x1.length c1) 0) w1 p0 m false [] (w2.setCell ⟨p0, 4, none⟩ (.int .i64 ((0 : Nat) : Int))) := ⟨ap, cap, q1, q2, q3⟩
    clear q1 q2 q3 hB hr hbw c4 f4 l0 hb1
    obtain ⟨F, hF⟩ : ∃ F, F = fwR x0 x1 (m : Int) := ⟨_, rfl⟩
    have HF := Lib.hid hF
    have h00 : fewB x0 x1 (x0.length + 1 - 0) 0 m = F := hF.symm
    have H00 := Lib.hid h00
    clear hF h00
    go_loopw [] (fun wr => ∃ (k left : Nat) (sp : Bool), k ≤ x0.length + 1 ∧ left ≤ m ∧ (sp = false → fewB x0 x1 (x0.length + 1 - k) k left = F) ∧ (sp = true → F.1.found = false ∧ F.1.spent = true) ∧ Plc (fI (.slice a0 x0.length c0) (.slice a1 x1.length c1) k) w1 p0 left sp [] wr) (fun wr => x0.length + 1 - mostOf wr p0 4)
    case atStart => exact ⟨0, m, false, Nat.zero_le _, Nat.le_refl _, fun _ => H00.out, (fun h => by cases h), hP3⟩
    case round =>
      obtain ⟨k, left, sp, hk, hl, hf', hs', hPr⟩ := hrel
      clear hP3
      have HFW := Lib.hid hf'; have HS := Lib.hid hs'; have HP := Lib.hid hPr
      clear hf' hs'
      obtain ⟨ap, cap, hB, hr, hbw⟩ := hPr
      have c1 := hB.at' 1 _ rfl
      have c4 := hB.at' 4 _ rfl
      have l0 := hB.lt
      have HC4 := Lib.hid c4
      have HBW := Lib.hid (HB1.out.trans (hbw.mono (by have := HP0.out; have := HB1.out.size; omega)))
      clear hB hr hbw
      by_cases hle : k ≤ x0.length
      · cases sp
        · have e1 : x0.length + 1 - k = (x0.length - k) + 1 := by omega
          have HW := Lib.hid (show fewB x0 x1 ((x0.length - k) + 1) k left = F by rw [← e1]; exact HFW.out rfl)
          clear HFW HS
          go_wp2_with fail
          refine (search_any x0 x1 _ _ k p0 w1 (h0.mono HB1.out) (h1.mono HB1.out) HP0.out.symm HA.out.cass.mem HA.out.bays.len HA.out.cass.len (by omega) x1.length [] left _ (by simp) (plIn_nil _) (by omega) HP.out).mono ?_
          rintro e w3 ⟨rfl, hP3⟩
          have hok := run_ok x0 x1 k x1.length [] left (plIn_nil _)
          obtain ⟨R, hR⟩ : ∃ R, R = runB x0 x1 k x1.length [] left := ⟨_, rfl⟩
          rw [← hR] at hP3 hok ⊢
          have HR := Lib.hid hR; clear hR c1 c4 l0
          have HOK := Lib.hid hok
          cases hf : R.found
          · rw [hok.none hf] at hP3
            clear hok
            obtain ⟨a3, cap3, hB3, hr3, hbw3⟩ := hP3
            have c4 := hB3.at' 4 _ rfl
            have f4 := hB3.fr 4
            have l3 := hB3.lt
            have e2 : (((k + 1 : Nat)) : Int) = (k : Int) + 1 := by omega
            obtain ⟨q1, q2, q3⟩ := set_box hB3 hr3 hbw3 (.int .i64 ((k : Int) + 1)) (j := 4) (by simp [fI])
            have hP7 : Plc (fI (.slice a0 x0.length c0) (.slice a1 x1.length c1) (k + 1)) w1 p0 R.left R.spent [] (w3.setCell ⟨p0, 4, none⟩ (.int .i64 ((k : Int) + 1))) := ⟨a3, cap3, by unfold fI; rw [e2]; exact q1, q2, q3⟩
            have HP7 := Lib.hid hP7
            have HM := Lib.hid (show mostOf (w3.setCell ⟨p0, 4, none⟩ (.int .i64 ((k : Int) + 1))) p0 4 = k + 1 by
              obtain ⟨_, _, b, _⟩ := hP7
              exact mostOf_eq (b.at' 4 _ rfl))
            clear q1 q2 q3 hP7 hB3 hr3 hbw3 e2
            go_wp2_with fail
            refine ⟨⟨k + 1, R.left, R.spent, by omega, by have := HOK.out.left; omega, fun h => ?_, fun h => ?_, HP7.out⟩, by rw [HM.out, mostOf_eq HC4.out]; omega⟩
            · rw [← HW.out, few_next (by rw [← HR.out]; exact hf) (by rw [← HR.out]; exact h), ← HR.out]
              congr 1; omega
            · rw [← HW.out, few_spent (by rw [← HR.out]; exact hf) (by rw [← HR.out]; exact h)]
              exact ⟨rfl, rfl⟩
          · have E := Lib.hid (show F = (R, k) by rw [← HW.out, HR.out]; exact few_found (by rw [← HR.out]; exact hf))
            have HFD := Lib.hid hf
            obtain ⟨a3, cap3, hB3, hr3, hbw3⟩ := hP3
            have c4 := hB3.at' 4 _ rfl
            have c5 := hB3.at' 5 _ rfl
            have l3 := hB3.lt
            have HO := Lib.hid (OwnInts.mk' (owns_base hr3 (Nat.le_refl _)))
            have HBX := Lib.hid (HB1.out.trans (hbw3.mono (by have := HP0.out; have := HB1.out.size; omega)))
            clear hok hB3 hr3 hbw3 hf
            go_wp2
            go_quiet (fail)
            go_wp2
            go_ret3
            have EE := fw_yes G.out (by rw [← HF.out, E.out]; exact HFD.out)
            exact ⟨_, by rw [EE.2.1, EE.2.2, ← HF.out, E.out]; rfl, by rw [EE.1, ← HF.out, E.out]; exact OwnInts.wide (OwnInts.mono HO.out (Below.drawN _)) (by have := HP0.out; have := HB1.out.size; omega) (by simp), HBX.out.trans ((Below.drawN _).mono HBX.out.size)⟩
        · have HX := Lib.hid (HS.out rfl)
          go_wp2_with fail
          refine (missing_any _ _ _ _ _ _ _ _ _ HP.out).mono ?_
          rintro e w4 ⟨rfl, rfl⟩
          obtain ⟨u, hu⟩ : ∃ u : Int, u = if true = true then 5 else 3 := ⟨_, rfl⟩
          rw [← hu]
          have HU := Lib.hid (show u = if F.1.spent = true then 5 else 3 by rw [HX.out.2]; simpa using hu); clear hu
          go_wp2
          go_ret3
          have E := fw_no G.out (by rw [← HF.out]; exact HX.out.1)
          exact ⟨_, by rw [E.2.1, E.2.2, ← HF.out, ← HU.out]; rfl, by rw [E.1]; exact OwnInts.nil _ _ _, HBW.out⟩
      · obtain rfl : k = x0.length + 1 := by omega
        have HX := Lib.hid (show F.1.found = false ∧ F.1.spent = sp by
          cases sp
          · rw [← HFW.out rfl, Nat.sub_self]; exact ⟨rfl, rfl⟩
          · exact HS.out rfl)
        go_wp2_with fail
        refine (missing_any _ _ _ _ _ _ _ _ _ HP.out).mono ?_
        rintro e w4 ⟨rfl, rfl⟩
        obtain ⟨u, hu⟩ : ∃ u : Int, u = if sp = true then 5 else 3 := ⟨_, rfl⟩
        rw [← hu]
        have HU := Lib.hid (show u = if F.1.spent = true then 5 else 3 by rw [HX.out.2]; simpa using hu); clear hu
        go_wp2
        go_ret3
        have E := fw_no G.out (by rw [← HF.out]; exact HX.out.1)
        exact ⟨_, by rw [E.2.1, E.2.2, ← HF.out, ← HU.out]; rfl, by rw [E.1]; exact OwnInts.nil _ _ _, HBW.out⟩
  · have E := Lib.hid (fw_bad g)
    have G := Lib.hid g
    clear g
    obtain ⟨r, hr⟩ : ∃ r, r = askB x0 x1 n := ⟨_, rfl⟩
    have hr0 : ¬ r = 0 := by rw [hr]; exact G.out
    have d0 : (r != 0) = true := by simpa using hr0
    have HR := Lib.hid hr; clear hr
    go_enter Try.func9, Try.ntmps9
    go_wp2_with fail
    refine (searched_bad _ x0 _ x1 n _ h0 o0 h1 o1 G.out).mono ?_
    rintro e w2 ⟨rfl, hb1⟩
    rw [← HR.out]
    go_wp2
    go_ret3
    exact ⟨_, by rw [E.out.2.1, E.out.2.2, ← HR.out]; rfl, by rw [E.out.1]; exact OwnInts.nil _ _ _, hb1⟩

set_option maxHeartbeats 2000000 in
theorem specFewestBays_any (v0 : Value) (x0 : List BayD) (v1 : Value) (x1 : List CasD) (n : Int) (w : World) (h0 : RdBayDs w v0 x0) (o0 : okBayDs x0) (_ : szBayDs x0 ≤ 1048576) (h1 : RdCasDs w v1 x1) (o1 : okCasDs x1) (_ : szCasDs x1 ≤ 1048576) (_ : I64 n) :
    Calls Try.prog 27 #[v0, v1, .int .i64 n] w fun e w' => ∃ v, e = .returned (.tuple #[v, .int .i64 (fwM x0 x1 n), .int .i64 (fwC x0 x1 n)]) ∧ OwnInts w.heap.size w'.heap.size w' v (fwV x0 x1 n) ∧ Below w.heap.size w w' := by
  obtain ⟨a0, c0, rfl⟩ := h0.form
  obtain ⟨a1, c1, rfl⟩ := h1.form
  by_cases g : askB x0 x1 n = 0
  · have A := ask_zeroB.1 g
    obtain ⟨m, rfl⟩ : ∃ m : Nat, n = m := ⟨n.toNat, by have := A.low; omega⟩
    have hm : (m : Int) ≤ 20000 := A.high
    have hnb : x0.length ≤ 8 := A.bays.len
    have HA := Lib.hid A; have G := Lib.hid g
    clear A g
    go_enter Try.func27, Try.ntmps27
    go_wp2_with fail
    refine (l16Ask_any _ x0 _ x1 m _ h0 o0 h1 o1).mono ?_
    rintro e w1 ⟨rfl, hq⟩
    have hb1 := hq.below w.heap.size
    rw [G.out]
    have HB1 := Lib.hid hb1
    go_wp2_with fail
    have hP : Plc (fS (.slice a0 x0.length c0) (.slice a1 x1.length c1) m 0) w1 w1.heap.size m false [] (w1.alloc (.cells #[.slice a0 x0.length c0, .slice a1 x1.length c1, .slice none 0 0, .int .i64 0, .int .i64 0, .int .i64 (m : Int), .bool false] 89)) :=
      ⟨none, 0, (by have := Box.alloc w1 [.slice a0 x0.length c0, .slice a1 x1.length c1, .slice none 0 0, .int .i64 0, .int .i64 0, .int .i64 (m : Int), .bool false] 89 _ rfl; simpa [fS] using this), owns_nil _ _ _ _, by (repeat (first | with_reducible exact Below.refl _ _ | with_reducible exact hbw | (with_reducible refine Below.setCell ?_ ?_ _; rotate_left; · first | exact Nat.le_refl _ | omega | (simp; done) | (simp; omega)) | (with_reducible refine Below.alloc ?_ ?_ _; rotate_left; · first | exact Nat.le_refl _ | omega | (simp; done) | (simp; omega)) | with_reducible refine below_drewN ?_ _ | with_reducible refine Below.drew ?_))⟩
    obtain ⟨p0, hp0⟩ : ∃ p0, p0 = w1.heap.size := ⟨_, rfl⟩
    rw [← hp0] at hP ⊢
    have HP0 := Lib.hid hp0
    clear hb1 hq hp0
    obtain ⟨F, hF⟩ : ∃ F, F = fwR x0 x1 (m : Int) := ⟨_, rfl⟩
    have HF := Lib.hid hF
    have h00 : fewB x0 x1 (x0.length + 1 - 0) 0 m = F := hF.symm
    have H00 := Lib.hid h00
    clear hF h00
    go_loopw [11] (fun mv wr => ∃ (k left k' : Nat), mv = .int .i64 (k : Int) ∧ k ≤ x0.length + 1 ∧ left ≤ m ∧ fewB x0 x1 (x0.length + 1 - k) k left = F ∧ Plc (fS (.slice a0 x0.length c0) (.slice a1 x1.length c1) m k') w1 p0 left false [] wr) (fun mv _ => x0.length + 1 - (intOf mv).toNat)
    case atStart => exact ⟨0, m, 0, by go_num, Nat.zero_le _, Nat.le_refl _, H00.out, hP⟩
    case round =>
      obtain ⟨k, left, k', rfl, hk, hl, hf', hPr⟩ := hrel
      clear hP
      have HFW := Lib.hid hf'
      clear hf'
      by_cases hle : k ≤ x0.length
      · have e1 : x0.length + 1 - k = (x0.length - k) + 1 := by omega
        have HW := Lib.hid (show fewB x0 x1 ((x0.length - k) + 1) k left = F by rw [← e1]; exact HFW.out)
        clear HFW e1
        obtain ⟨ap, cap, hB, hr, hbw⟩ := hPr
        have c3 := hB.at' 3 _ rfl
        have f3 := hB.fr 3
        have l0 := hB.lt
        obtain ⟨q1, q2, q3⟩ := set_box hB hr hbw (.int .i64 (k : Int)) (j := 3) (by simp [fS])
        have HP7 := Lib.hid (show Plc (fS (.slice a0 x0.length c0) (.slice a1 x1.length c1) m k) w1 p0 left false [] (wr.setCell ⟨p0, 3, none⟩ (.int .i64 (k : Int))) from ⟨ap, cap, q1, q2, q3⟩)
        clear q1 q2 q3 hB hr hbw
        go_wp2_with fail
        clear c3 f3 l0
        refine (run_any x0 x1 _ _ k p0 m w1 (h0.mono HB1.out) (h1.mono HB1.out) HP0.out.symm HA.out.cass.mem HA.out.bays.len HA.out.cass.len (by omega) (by omega) x1.length [] left _ (by simp) (plIn_nil _) (by omega) HP7.out).mono ?_
        rintro e w3 ⟨rfl, hP3⟩
        have hok := run_ok x0 x1 k x1.length [] left (plIn_nil _)
        obtain ⟨R, hR⟩ : ∃ R, R = runB x0 x1 k x1.length [] left := ⟨_, rfl⟩
        rw [← hR] at hP3 hok ⊢
        have HR := Lib.hid hR; clear hR
        have HOK := Lib.hid hok
        have HP3 := Lib.hid hP3
        obtain ⟨a3, cap3, hB3, hr3, hbw3⟩ := hP3
        have c2 := hB3.at' 2 _ rfl
        have c6 := hB3.at' 6 _ rfl
        have l3 := hB3.lt
        have HBX := Lib.hid (HB1.out.trans (hbw3.mono (by have := HP0.out; have := HB1.out.size; omega)))
        clear hB3 hbw3
        cases hf : R.found
        · have HFD := Lib.hid hf
          have hpl := hok.none hf
          clear hok hr3 hf
          cases hs : R.spent
          · rw [hs] at c6
            have HSP := Lib.hid hs; have HPL := Lib.hid hpl
            clear hs hpl
            go_wp2
            go_roundw
            case rel => exact ⟨k + 1, R.left, k, by go_num, by omega, by have := HOK.out.left; omega, (by
              rw [← HW.out, few_next (by rw [← HR.out]; exact HFD.out) (by rw [← HR.out]; exact HSP.out), ← HR.out]
              congr 1; omega), by have := HP3.out; rw [HSP.out, HPL.out] at this; exact this⟩
            case measure => simp [intOf] <;> omega
          · rw [hs] at c6
            have HX := Lib.hid (show F.1.found = false ∧ F.1.spent = true by
              rw [← HW.out, few_spent (by rw [← HR.out]; exact HFD.out) (by rw [← HR.out]; exact hs)]
              exact ⟨rfl, rfl⟩)
            clear hs hpl
            go_wp2
            go_ret3
            have EE := fw_no G.out (by rw [← HF.out]; exact HX.out.1)
            exact ⟨_, by rw [EE.2.1, EE.2.2, ← HF.out, HX.out.2]; rfl, by rw [EE.1]; exact OwnInts.nil _ _ _, HBX.out⟩
        · have E := Lib.hid (show F = (R, k) by rw [← HW.out, HR.out]; exact few_found (by rw [← HR.out]; exact hf))
          have HFD := Lib.hid hf
          have hpl : R.pl.length ≤ 12 := by
            have h1 := (hok.found hf).2.1
            have h2 := HA.out.cass.len
            rw [h1]; simp; omega
          have HI := Lib.hid (show Ints w3 (.slice a3 R.pl.length cap3) R.pl from Sl.of_owns hr3)
          clear hok hr3 hf
          go_wp2_with fail
          refine (l00Own_any _ R.pl _ HI.out (by omega)).mono ?_
          rintro e w4 ⟨v4, rfl, ho4, hb4⟩
          obtain ⟨a4, c4, rfl⟩ := ho4.form
          have HO := Lib.hid ho4; have HBY := Lib.hid (HBX.out.trans (hb4.mono HBX.out.size))
          have hz3 := HBX.out.size
          clear ho4 hb4 c2 c6 l3
          go_wp2
          go_ret3
          have EE := fw_yes G.out (by rw [← HF.out, E.out]; exact HFD.out)
          exact ⟨_, by rw [EE.2.1, EE.2.2, ← HF.out, E.out]; rfl, by rw [EE.1, ← HF.out, E.out]; exact OwnInts.wide HO.out (by omega) (Nat.le_refl _), HBY.out⟩
      · obtain rfl : k = x0.length + 1 := by omega
        have HX := Lib.hid (show F.1.found = false ∧ F.1.spent = false by
          rw [← HFW.out, Nat.sub_self]; exact ⟨rfl, rfl⟩)
        obtain ⟨_, _, _, _, hbw⟩ := hPr
        have HBX := Lib.hid (HB1.out.trans (hbw.mono (by have := HP0.out; have := HB1.out.size; omega)))
        clear hbw
        go_wp2
        go_ret3
        have EE := fw_no G.out (by rw [← HF.out]; exact HX.out.1)
        exact ⟨_, by rw [EE.2.1, EE.2.2, ← HF.out, HX.out.2]; rfl, by rw [EE.1]; exact OwnInts.nil _ _ _, HBX.out⟩
  · have E := Lib.hid (fw_bad g)
    have G := Lib.hid g
    clear g
    obtain ⟨r, hr⟩ : ∃ r, r = askB x0 x1 n := ⟨_, rfl⟩
    have hr0 : ¬ r = 0 := by rw [hr]; exact G.out
    have d0 : (r != 0) = true := by simpa using hr0
    have HR := Lib.hid hr; clear hr
    go_enter Try.func27, Try.ntmps27
    go_wp2_with fail
    refine (l16Ask_any _ x0 _ x1 n _ h0 o0 h1 o1).mono ?_
    rintro e w1 ⟨rfl, hq⟩
    rw [← HR.out]
    go_wp2
    go_ret3
    exact ⟨_, by rw [E.out.2.1, E.out.2.2, ← HR.out]; rfl, by rw [E.out.1]; exact OwnInts.nil _ _ _, hq.below _⟩

end Go.Proofs.Yteaijhmgfddjiaa
