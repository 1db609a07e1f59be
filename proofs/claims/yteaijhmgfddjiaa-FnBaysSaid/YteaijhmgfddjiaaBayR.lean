/- The program's search for places. -/
import Derived.Test.YteaijhmgfddjiaaBayU
set_option linter.unusedSimpArgs false
set_option linter.unnecessarySimpa false
set_option linter.unusedVariables false
set_option maxRecDepth 100000
namespace Go.Proofs.Yteaijhmgfddjiaa
open Go.RowKit

theorem sizeB_any (a : Option Addr) (n c : Nat) (w : World) : Calls Try.prog 43 #[.slice a n c] w fun e w' => e = .returned (.int .i64 n) ∧ w' = w := by
  go_enter Try.func43, Try.ntmps43
  go_wp2
  go_ret
  exact ⟨rfl, rfl⟩
theorem plIn_snoc {nb : Nat} {pl : List Int} {j : Nat} (h : plIn nb pl) (hj : j < nb) : plIn nb (pl ++ [(j : Int)]) := fun x hx => by
  rcases List.mem_append.1 hx with hx | hx
  · exact h x hx
  · rw [List.mem_singleton.1 hx]; omega

set_option maxHeartbeats 8000000 in
theorem search_any (bays : List BayD) (list : List CasD) (vb vl : Value) (most p0 : Nat) (w0 : World) (hb : RdBayDs w0 vb bays) (hl : RdCasDs w0 vl list) (h0 : w0.heap.size = p0) (ok : ∀ x ∈ list, casOk x) (lb : bays.length ≤ 8) (ll : list.length ≤ 12) (hm : most ≤ 1000) :
    ∀ (d : Nat) (pl : List Int) (left : Nat) (w : World), pl.length + d = list.length → plIn bays.length pl → left ≤ 20000 → Plc (fI vb vl most) w0 p0 left false pl w →
    Calls Try.prog 33 #[.pointer (some ⟨p0, 0, none⟩)] w fun e w' => e = .returned (.bool (runB bays list most d pl left).found) ∧ Plc (fI vb vl most) w0 p0 (runB bays list most d pl left).left (runB bays list most d pl left).spent (runB bays list most d pl left).pl w' := by
  obtain ⟨a1, k1, rfl, m1⟩ := hb.form'
  obtain ⟨a9, k9, rfl, m9⟩ := hl.form'
  have OK := Lib.hid ok; clear ok
  have H0 := Lib.hid h0; clear h0
  intro d
  induction d with
  | zero =>
    intro pl left w hlen hin hleft hP
    obtain ⟨a, cap, hB, hr, hbw⟩ := id hP
    have c3 := hB.at' 3 _ rfl
    have c5 := hB.at' 5 _ rfl
    have l0 := hB.lt
    have d0 : ((pl.length : Int) == (list.length : Int)) = true := by rw [beq_iff_eq]; omega
    clear hlen hr
    go_enter Try.func33, Try.ntmps33
    go_wp2
    go_ret
    exact ⟨rfl, hP⟩
  | succ d ih =>
    intro pl left w hlen hin hleft hP
    obtain ⟨R, hR⟩ : ∃ R, R = runB bays list most (d + 1) pl left := ⟨_, rfl⟩
    have HR := Lib.hid (show tryB (runB bays list most d) (okP bays list most pl) pl bays.length 0 left = R from hR.symm)
    rw [← hR]
    clear hR
    obtain ⟨a, cap, hB, hr, hbw⟩ := id hP
    have c2 := hB.at' 2 _ rfl
    have c3 := hB.at' 3 _ rfl
    have c5 := hB.at' 5 _ rfl
    have l0 := hB.lt
    have d0 : ((pl.length : Int) == (list.length : Int)) = false := beq_eq_false_iff_ne.2 (by omega)
    have hk2 : pl.length < list.length := by omega
    have HL := Lib.hid hlen
    have HIN0 := Lib.hid hin
    clear hlen hr hin
    go_enter Try.func33, Try.ntmps33
    go_wp2_with fail
    refine (sizeB_any _ _ _ _).mono ?_
    rintro e w1 ⟨rfl, rfl⟩
    clear c2 c3 c5 l0 hB hbw
    go_wp2_with fail
    go_loopw [22, 4] (fun i _ wr => ∃ (j left' : Nat) (sp : Bool), j ≤ bays.length ∧ i = .int .i64 j ∧ left' ≤ left ∧ (sp = false → tryB (runB bays list most d) (okP bays list most pl) pl (bays.length - j) j left' = R) ∧ (sp = true → left' = 0 ∧ R = ⟨false, pl, 0, true⟩) ∧ Plc (fI (.slice a1 bays.length k1) (.slice a9 list.length k9) most) w0 p0 left' sp pl wr) (fun i _ _ => bays.length - (intOf i).toNat)
    case atStart => exact ⟨0, left, false, Nat.zero_le _, by go_num, Nat.le_refl _, fun _ => HR.out, (fun h => by cases h), hP⟩
    case round =>
      obtain ⟨j, left', sp, hj, rfl, hleft', ht', hs', hPr⟩ := hrel
      have ht := Lib.hid ht'; have hs := Lib.hid hs'; have HP := Lib.hid hPr
      clear ht' hs' hP
      by_cases hlt : j < bays.length
      · have hn1 : bays.length - j = bays.length - (j + 1) + 1 := by omega
        obtain ⟨a2, cap2, hB, hr, hbw⟩ := hPr
        have c0 := hB.at' 0 _ rfl
        have c1 := hB.at' 1 _ rfl
        have c2 := hB.at' 2 _ rfl
        have c3 := hB.at' 3 _ rfl
        have c4 := hB.at' 4 _ rfl
        have c5 := hB.at' 5 _ rfl
        have l0 := hB.lt
        have HI := Lib.hid (show Ints wr (.slice a2 pl.length cap2) pl from Sl.of_owns hr)
        have HW0 := Lib.hid (show Below w0.heap.size w0 wr by rw [H0.out]; exact hbw)
        clear hB hr hbw
        obtain ⟨u, hu⟩ : ∃ u : Int, u = (notesOfL pl).length := ⟨_, rfl⟩
        have HU := Lib.hid hu
        by_cases hok : okP bays list most pl j
        · have HOKP := Lib.hid hok
          have HC := Lib.hid hok.2
          by_cases hin : (j : Int) ∈ pl
          · have HIN := Lib.hid (yesB hin)
            clear hok hin hu
            go_wp2_with fail
            refine wp_region_ord [(0, true), (1, true), (2, true), (3, true), (4, true), (5, false), (6, true), (7, true), (8, true), (10, true), (11, true), (12, true), (13, true), (9, false), (14, true), (15, true), (16, true), (17, true), (18, true), (19, true), (20, true), (21, true), (22, true), (23, true), (24, true), (25, true), (26, true), (27, true), (28, true), (29, true), (30, true), (31, false), (32, true), (33, true)] (none) (by kernel_rfl) (by kernel_rfl) ?_
            (repeat (with_reducible refine wpOrd_soft (fun K hK => ?_); simp only [List.getElem?_toArray, List.getElem?_cons_zero, List.getElem?_cons_succ]; first | (go_simp; refine hK _ ?_) | (simp only [undef]; go_simp; refine hK _ ?_); clear hK K))
            (with_reducible refine wpOrd_hard ?_; simp only [List.getElem?_toArray, List.getElem?_cons_zero, List.getElem?_cons_succ])
            go_wp2_with fail
            refine (containsI_any true _ pl j _ (HI.out.mono (by (repeat (first | with_reducible exact Below.refl _ _ | with_reducible exact hbw | (with_reducible refine Below.setCell ?_ ?_ _; rotate_left; · first | exact Nat.le_refl _ | omega | (simp; done) | (simp; omega)) | (with_reducible refine Below.alloc ?_ ?_ _; rotate_left; · first | exact Nat.le_refl _ | omega | (simp; done) | (simp; omega)) | with_reducible refine below_drewN ?_ _ | with_reducible refine Below.drew ?_)))) HIN.out).mono ?_
            rintro e w1 ⟨rfl, hq1⟩
            have hb1 : Below wr.heap.size wr w1 := undrew (hq1.below _)
            go_wp2_with fail
            refine ⟨grown_of_below hb1, ?_⟩
            (repeat (with_reducible refine wpOrd_soft (fun K hK => ?_); simp only [List.getElem?_toArray, List.getElem?_cons_zero, List.getElem?_cons_succ]; first | (go_simp; refine hK _ ?_) | (simp only [undef]; go_simp; refine hK _ ?_); clear hK K))
            (with_reducible refine wpOrd_skip ?_ (fun K hK => ?_); exact grown_of_below hb1; simp only [List.getElem?_toArray, List.getElem?_cons_zero, List.getElem?_cons_succ]; first | (go_simp; refine hK _ ?_) | (simp only [undef]; go_simp; refine hK _ ?_); clear hK K)
            (repeat (with_reducible refine wpOrd_soft (fun K hK => ?_); simp only [List.getElem?_toArray, List.getElem?_cons_zero, List.getElem?_cons_succ]; first | (go_simp; refine hK _ ?_) | (simp only [undef]; go_simp; refine hK _ ?_); clear hK K))
            (with_reducible refine wpOrd_hard ?_; simp only [List.getElem?_toArray, List.getElem?_cons_zero, List.getElem?_cons_succ])
            go_wp2_with fail
            refine (canBe_any true _ _ _ bays list pl pl.length j _ (((hb.mono HW0.out).mono hb1).mono (by (repeat (first | with_reducible exact Below.refl _ _ | with_reducible exact hbw | (with_reducible refine Below.setCell ?_ ?_ _; rotate_left; · first | exact Nat.le_refl _ | omega | (simp; done) | (simp; omega)) | (with_reducible refine Below.alloc ?_ ?_ _; rotate_left; · first | exact Nat.le_refl _ | omega | (simp; done) | (simp; omega)) | with_reducible refine below_drewN ?_ _ | with_reducible refine Below.drew ?_)))) (((hl.mono HW0.out).mono hb1).mono (by (repeat (first | with_reducible exact Below.refl _ _ | with_reducible exact hbw | (with_reducible refine Below.setCell ?_ ?_ _; rotate_left; · first | exact Nat.le_refl _ | omega | (simp; done) | (simp; omega)) | (with_reducible refine Below.alloc ?_ ?_ _; rotate_left; · first | exact Nat.le_refl _ | omega | (simp; done) | (simp; omega)) | with_reducible refine below_drewN ?_ _ | with_reducible refine Below.drew ?_)))) ((HI.out.mono hb1).mono (by (repeat (first | with_reducible exact Below.refl _ _ | with_reducible exact hbw | (with_reducible refine Below.setCell ?_ ?_ _; rotate_left; · first | exact Nat.le_refl _ | omega | (simp; done) | (simp; omega)) | (with_reducible refine Below.alloc ?_ ?_ _; rotate_left; · first | exact Nat.le_refl _ | omega | (simp; done) | (simp; omega)) | with_reducible refine below_drewN ?_ _ | with_reducible refine Below.drew ?_)))) OK.out rfl hk2 hlt ⟨fun _ => HC.out, fun _ => rfl⟩).mono ?_
            rintro e w2 ⟨rfl, hb2⟩
            have hb2 : Below wr.heap.size wr w2 := hb1.trans (Below.mono hb2 hb1.size)
            go_wp2_with fail
            refine ⟨grown_of_below hb2, ?_⟩
            (repeat (with_reducible refine wpOrd_soft (fun K hK => ?_); simp only [List.getElem?_toArray, List.getElem?_cons_zero, List.getElem?_cons_succ]; first | (go_simp; refine hK _ ?_) | (simp only [undef]; go_simp; refine hK _ ?_); clear hK K))
            (with_reducible refine wpOrd_nil ?_); refine NoPanic.normal ?_
            clear c0 c1 c2 c3 c4 c5 l0
            have hP2 := HP.out.mono hb2
            obtain ⟨a2, cap2, hB2, hr2, hbw2⟩ := hP2
            have c1 := hB2.at' 1 _ rfl
            have l0 := hB2.lt
            cases sp
            · rcases left' with _ | m
              · have E := Lib.hid (show R = ⟨false, pl, 0, true⟩ by rw [← ht.out rfl, hn1, try_spent HOKP.out rfl])
                go_wp2_with fail
                refine (node_no p0 false _ _ hB2).mono ?_
                rintro e w3 ⟨rfl, rfl⟩
                go_wp2
                go_ret
                obtain ⟨q1, q2, q3⟩ := set_box hB2 hr2 hbw2 (.bool true) (j := 1) (by simp [fI])
                rw [E.out]
                exact ⟨rfl, a2, cap2, q1, q2, q3⟩
              · have hT : tryB (runB bays list most d) (okP bays list most pl) pl (bays.length - (j + 1) + 1) j (m + 1) = R := by rw [← hn1]; exact ht.out rfl
                have HT := Lib.hid hT; clear hT
                go_wp2_with fail
                refine (node_yes p0 m false _ _ hB2 (by omega)).mono ?_
                rintro e w3 ⟨rfl, hw3⟩
                obtain ⟨q1, q2, q3⟩ := set_box hB2 hr2 hbw2 (.int .i64 (m : Int)) (j := 0) (by simp [fI])
                rw [← hw3] at q1 q2 q3
                have hB3 : Box w3 p0 (fI (.slice a1 bays.length k1) (.slice a9 list.length k9) most m false (.slice a2 pl.length cap2)) := q1
                clear hw3 c1 l0 hB2 hr2 hbw2 q1
                have c5 := hB3.at' 5 _ rfl
                have l3 := hB3.lt
                go_wp2_with (at_builtin; refine append_one rfl _ _ 28 rfl (p0 + 1) 2 (.int .i64 0) 1 8 Try.underlying28 info_int rfl (by decide) _ pl.length _ rfl q2 [.int .i64 (j : Int)] rfl (by simp [Value.oneCell']) rfl (by omega) (by decide) l3 ?_)
                intro a4 k4 w4 ho4 hg4 hb4
                have hB4 := hB3.step hb4 (Nat.lt_succ_self _)
                have hb04 : Below p0 w0 w4 := q3.trans (hb4.mono (Nat.le_succ _))
                clear hB3 q2 q3 hg4 c5 l3
                have c5 := hB4.at' 5 _ rfl
                have f5 := hB4.fr 5
                have l4 := hB4.lt
                go_wp2_with fail
                obtain ⟨w5, hw5⟩ : ∃ w5, w5 = w4.setCell ⟨p0, 5, none⟩ (.slice a4 (pl.length + 1) k4) := ⟨_, rfl⟩
                rw [← hw5]
                obtain ⟨q1, q2, q3⟩ := set_box hB4 ho4 hb04 (.slice a4 (pl.length + 1) k4) (j := 5) (by simp [fI])
                rw [← hw5] at q1 q2 q3
                have hP5 : Plc (fI (.slice a1 bays.length k1) (.slice a9 list.length k9) most) w0 p0 m false (pl ++ [(j : Int)]) w5 := ⟨a4, k4, by rw [List.length_append]; exact q1, by rw [List.length_append, List.map_append]; exact q2, q3⟩
                clear q1 q2 q3 hw5 hB4 hb4 ho4 hb04 c5 f5 l4
                refine (ih (pl ++ [(j : Int)]) m _ (by rw [List.length_append]; have := HL.out; simp only [List.length_singleton]; omega) (plIn_snoc HIN0.out hlt) (by omega) hP5).mono ?_
                rintro e w6 ⟨rfl, hP6⟩
                have hok := run_ok bays list most d (pl ++ [(j : Int)]) m (plIn_snoc HIN0.out hlt)
                obtain ⟨r, hr⟩ : ∃ r, r = runB bays list most d (pl ++ [(j : Int)]) m := ⟨_, rfl⟩
                rw [← hr] at hP6 hok ⊢
                have HRr := Lib.hid hr; clear hr
                cases hf : r.found
                · have hpl := hok.none hf
                  rw [hpl] at hP6
                  have HOR := Lib.hid hok; have HPL := Lib.hid hpl; clear hok hpl
                  obtain ⟨a6, k6, hB6, hr6, hbw6⟩ := hP6
                  have hsl := Sl.of_owns hr6
                  obtain ⟨_, _, e6, hca6, hcm6, _⟩ := hsl
                  cases e6
                  rw [List.length_append, List.length_singleton] at hB6 hr6 hca6
                  have c5 := hB6.at' 5 _ rfl
                  have f5 := hB6.fr 5
                  have l6 := hB6.lt
                  have i6 : pl.length ≤ k6 := by omega
                  unfold maxLen at hcm6
                  obtain ⟨q1, q2, q3⟩ := set_box hB6 (owns_take hr6 (Nat.le_succ pl.length)) hbw6 (.slice a6 pl.length k6) (j := 5) (by simp [fI])
                  rw [List.map_append, List.take_left' (by simp)] at q2
                  have hP7 : Plc (fI (.slice a1 bays.length k1) (.slice a9 list.length k9) most) w0 p0 r.left r.spent pl (w6.setCell ⟨p0, 5, none⟩ (.slice a6 pl.length k6)) := ⟨a6, k6, q1, q2, q3⟩
                  have HP7 := Lib.hid hP7
                  clear q1 q2 q3 hr6 hB6 hbw6 hP7
                  go_wp2_with fail
                  refine ⟨⟨j + 1, r.left, r.spent, by omega, by go_num, by have := HOR.out.left; omega, fun h => ?_, fun h => ?_, HP7.out⟩, by simp [intOf]; omega⟩
                  · rw [← HT.out, try_next HOKP.out (by omega) (by rw [Nat.add_sub_cancel, ← HRr.out]; exact hf) (by rw [Nat.add_sub_cancel, ← HRr.out]; exact h), Nat.add_sub_cancel, ← HRr.out]
                  · refine ⟨HOR.out.spent h, ?_⟩
                    rw [← HT.out, try_deep HOKP.out (by omega) (by rw [Nat.add_sub_cancel, ← HRr.out]; exact hf) (by rw [Nat.add_sub_cancel, ← HRr.out]; exact h), Nat.add_sub_cancel, ← HRr.out, HOR.out.spent h]
                · have E := Lib.hid (show R = r by rw [← HT.out, HRr.out]; exact try_found HOKP.out (by omega) (by rw [Nat.add_sub_cancel, ← HRr.out]; exact hf))
                  go_wp2
                  go_ret
                  rw [E.out]
                  exact ⟨ret_bool hf.symm, hP6⟩
            · obtain ⟨e0, e1⟩ := hs.out rfl
              have E := Lib.hid e1; have E0 := Lib.hid e0; clear e0 e1
              go_wp2
              go_ret
              have e0 := E0.out
              subst e0
              rw [E.out]
              exact ⟨rfl, a2, cap2, hB2, hr2, hbw2⟩
          · have hu2 : u < (most : Int) := by
              have := hok.1.resolve_left hin
              omega
            have d1 : decide ((most : Int) ≤ u) = false := decide_eq_false (by omega)
            have HIN := Lib.hid (noB hin)
            clear hok hin hu
            go_wp2_with fail
            refine wp_region_ord [(0, true), (1, true), (2, true), (3, true), (4, true), (5, false), (6, true), (7, true), (8, true), (10, true), (11, true), (12, true), (13, true), (9, false), (14, true), (15, true), (16, true), (17, true), (18, true), (19, true), (20, true), (21, true), (22, true), (23, true), (24, true), (25, true), (26, true), (27, true), (28, true), (29, true), (30, true), (31, false), (32, true), (33, true)] (none) (by kernel_rfl) (by kernel_rfl) ?_
            (repeat (with_reducible refine wpOrd_soft (fun K hK => ?_); simp only [List.getElem?_toArray, List.getElem?_cons_zero, List.getElem?_cons_succ]; first | (go_simp; refine hK _ ?_) | (simp only [undef]; go_simp; refine hK _ ?_); clear hK K))
            (with_reducible refine wpOrd_hard ?_; simp only [List.getElem?_toArray, List.getElem?_cons_zero, List.getElem?_cons_succ])
            go_wp2_with fail
            refine (containsI_any false _ pl j _ (HI.out.mono (by (repeat (first | with_reducible exact Below.refl _ _ | with_reducible exact hbw | (with_reducible refine Below.setCell ?_ ?_ _; rotate_left; · first | exact Nat.le_refl _ | omega | (simp; done) | (simp; omega)) | (with_reducible refine Below.alloc ?_ ?_ _; rotate_left; · first | exact Nat.le_refl _ | omega | (simp; done) | (simp; omega)) | with_reducible refine below_drewN ?_ _ | with_reducible refine Below.drew ?_)))) HIN.out).mono ?_
            rintro e w1 ⟨rfl, hq1⟩
            have hb1 : Below wr.heap.size wr w1 := undrew (hq1.below _)
            go_wp2_with fail
            refine ⟨grown_of_below hb1, ?_⟩
            (repeat (with_reducible refine wpOrd_soft (fun K hK => ?_); simp only [List.getElem?_toArray, List.getElem?_cons_zero, List.getElem?_cons_succ]; first | (go_simp; refine hK _ ?_) | (simp only [undef]; go_simp; refine hK _ ?_); clear hK K))
            (with_reducible refine wpOrd_hard ?_; simp only [List.getElem?_toArray, List.getElem?_cons_zero, List.getElem?_cons_succ])
            go_wp2_with fail
            refine (used_any u _ _ most p0 left' sp pl w0 _ ((HP.out.mono hb1).mono (by (repeat (first | with_reducible exact Below.refl _ _ | with_reducible exact hbw | (with_reducible refine Below.setCell ?_ ?_ _; rotate_left; · first | exact Nat.le_refl _ | omega | (simp; done) | (simp; omega)) | (with_reducible refine Below.alloc ?_ ?_ _; rotate_left; · first | exact Nat.le_refl _ | omega | (simp; done) | (simp; omega)) | with_reducible refine below_drewN ?_ _ | with_reducible refine Below.drew ?_)))) (by omega) HU.out).mono ?_
            rintro e w1' ⟨rfl, hb1'⟩
            have hb1 : Below wr.heap.size wr w1' := hb1.trans (Below.mono hb1' hb1.size)
            go_wp2_with fail
            refine ⟨grown_of_below hb1, ?_⟩
            (repeat (with_reducible refine wpOrd_soft (fun K hK => ?_); simp only [List.getElem?_toArray, List.getElem?_cons_zero, List.getElem?_cons_succ]; first | (go_simp; refine hK _ ?_) | (simp only [undef]; go_simp; refine hK _ ?_); clear hK K))
            (with_reducible refine wpOrd_hard ?_; simp only [List.getElem?_toArray, List.getElem?_cons_zero, List.getElem?_cons_succ])
            go_wp2_with fail
            refine (canBe_any true _ _ _ bays list pl pl.length j _ (((hb.mono HW0.out).mono hb1).mono (by (repeat (first | with_reducible exact Below.refl _ _ | with_reducible exact hbw | (with_reducible refine Below.setCell ?_ ?_ _; rotate_left; · first | exact Nat.le_refl _ | omega | (simp; done) | (simp; omega)) | (with_reducible refine Below.alloc ?_ ?_ _; rotate_left; · first | exact Nat.le_refl _ | omega | (simp; done) | (simp; omega)) | with_reducible refine below_drewN ?_ _ | with_reducible refine Below.drew ?_)))) (((hl.mono HW0.out).mono hb1).mono (by (repeat (first | with_reducible exact Below.refl _ _ | with_reducible exact hbw | (with_reducible refine Below.setCell ?_ ?_ _; rotate_left; · first | exact Nat.le_refl _ | omega | (simp; done) | (simp; omega)) | (with_reducible refine Below.alloc ?_ ?_ _; rotate_left; · first | exact Nat.le_refl _ | omega | (simp; done) | (simp; omega)) | with_reducible refine below_drewN ?_ _ | with_reducible refine Below.drew ?_)))) ((HI.out.mono hb1).mono (by (repeat (first | with_reducible exact Below.refl _ _ | with_reducible exact hbw | (with_reducible refine Below.setCell ?_ ?_ _; rotate_left; · first | exact Nat.le_refl _ | omega | (simp; done) | (simp; omega)) | (with_reducible refine Below.alloc ?_ ?_ _; rotate_left; · first | exact Nat.le_refl _ | omega | (simp; done) | (simp; omega)) | with_reducible refine below_drewN ?_ _ | with_reducible refine Below.drew ?_)))) OK.out rfl hk2 hlt ⟨fun _ => HC.out, fun _ => rfl⟩).mono ?_
            rintro e w2 ⟨rfl, hb2⟩
            have hb2 : Below wr.heap.size wr w2 := hb1.trans (Below.mono hb2 hb1.size)
            go_wp2_with fail
            refine ⟨grown_of_below hb2, ?_⟩
            (repeat (with_reducible refine wpOrd_soft (fun K hK => ?_); simp only [List.getElem?_toArray, List.getElem?_cons_zero, List.getElem?_cons_succ]; first | (go_simp; refine hK _ ?_) | (simp only [undef]; go_simp; refine hK _ ?_); clear hK K))
            (with_reducible refine wpOrd_nil ?_); refine NoPanic.normal ?_
            clear c0 c1 c2 c3 c4 c5 l0
            have hP2 := HP.out.mono hb2
            obtain ⟨a2, cap2, hB2, hr2, hbw2⟩ := hP2
            have c1 := hB2.at' 1 _ rfl
            have l0 := hB2.lt
            cases sp
            · rcases left' with _ | m
              · have E := Lib.hid (show R = ⟨false, pl, 0, true⟩ by rw [← ht.out rfl, hn1, try_spent HOKP.out rfl])
                go_wp2_with fail
                refine (node_no p0 false _ _ hB2).mono ?_
                rintro e w3 ⟨rfl, rfl⟩
                go_wp2
                go_ret
                obtain ⟨q1, q2, q3⟩ := set_box hB2 hr2 hbw2 (.bool true) (j := 1) (by simp [fI])
                rw [E.out]
                exact ⟨rfl, a2, cap2, q1, q2, q3⟩
              · have hT : tryB (runB bays list most d) (okP bays list most pl) pl (bays.length - (j + 1) + 1) j (m + 1) = R := by rw [← hn1]; exact ht.out rfl
                have HT := Lib.hid hT; clear hT
                go_wp2_with fail
                refine (node_yes p0 m false _ _ hB2 (by omega)).mono ?_
                rintro e w3 ⟨rfl, hw3⟩
                obtain ⟨q1, q2, q3⟩ := set_box hB2 hr2 hbw2 (.int .i64 (m : Int)) (j := 0) (by simp [fI])
                rw [← hw3] at q1 q2 q3
                have hB3 : Box w3 p0 (fI (.slice a1 bays.length k1) (.slice a9 list.length k9) most m false (.slice a2 pl.length cap2)) := q1
                clear hw3 c1 l0 hB2 hr2 hbw2 q1
                have c5 := hB3.at' 5 _ rfl
                have l3 := hB3.lt
                go_wp2_with (at_builtin; refine append_one rfl _ _ 28 rfl (p0 + 1) 2 (.int .i64 0) 1 8 Try.underlying28 info_int rfl (by decide) _ pl.length _ rfl q2 [.int .i64 (j : Int)] rfl (by simp [Value.oneCell']) rfl (by omega) (by decide) l3 ?_)
                intro a4 k4 w4 ho4 hg4 hb4
                have hB4 := hB3.step hb4 (Nat.lt_succ_self _)
                have hb04 : Below p0 w0 w4 := q3.trans (hb4.mono (Nat.le_succ _))
                clear hB3 q2 q3 hg4 c5 l3
                have c5 := hB4.at' 5 _ rfl
                have f5 := hB4.fr 5
                have l4 := hB4.lt
                go_wp2_with fail
                obtain ⟨w5, hw5⟩ : ∃ w5, w5 = w4.setCell ⟨p0, 5, none⟩ (.slice a4 (pl.length + 1) k4) := ⟨_, rfl⟩
                rw [← hw5]
                obtain ⟨q1, q2, q3⟩ := set_box hB4 ho4 hb04 (.slice a4 (pl.length + 1) k4) (j := 5) (by simp [fI])
                rw [← hw5] at q1 q2 q3
                have hP5 : Plc (fI (.slice a1 bays.length k1) (.slice a9 list.length k9) most) w0 p0 m false (pl ++ [(j : Int)]) w5 := ⟨a4, k4, by rw [List.length_append]; exact q1, by rw [List.length_append, List.map_append]; exact q2, q3⟩
                clear q1 q2 q3 hw5 hB4 hb4 ho4 hb04 c5 f5 l4
                refine (ih (pl ++ [(j : Int)]) m _ (by rw [List.length_append]; have := HL.out; simp only [List.length_singleton]; omega) (plIn_snoc HIN0.out hlt) (by omega) hP5).mono ?_
                rintro e w6 ⟨rfl, hP6⟩
                have hok := run_ok bays list most d (pl ++ [(j : Int)]) m (plIn_snoc HIN0.out hlt)
                obtain ⟨r, hr⟩ : ∃ r, r = runB bays list most d (pl ++ [(j : Int)]) m := ⟨_, rfl⟩
                rw [← hr] at hP6 hok ⊢
                have HRr := Lib.hid hr; clear hr
                cases hf : r.found
                · have hpl := hok.none hf
                  rw [hpl] at hP6
                  have HOR := Lib.hid hok; have HPL := Lib.hid hpl; clear hok hpl
                  obtain ⟨a6, k6, hB6, hr6, hbw6⟩ := hP6
                  have hsl := Sl.of_owns hr6
                  obtain ⟨_, _, e6, hca6, hcm6, _⟩ := hsl
                  cases e6
                  rw [List.length_append, List.length_singleton] at hB6 hr6 hca6
                  have c5 := hB6.at' 5 _ rfl
                  have f5 := hB6.fr 5
                  have l6 := hB6.lt
                  have i6 : pl.length ≤ k6 := by omega
                  unfold maxLen at hcm6
                  obtain ⟨q1, q2, q3⟩ := set_box hB6 (owns_take hr6 (Nat.le_succ pl.length)) hbw6 (.slice a6 pl.length k6) (j := 5) (by simp [fI])
                  rw [List.map_append, List.take_left' (by simp)] at q2
                  have hP7 : Plc (fI (.slice a1 bays.length k1) (.slice a9 list.length k9) most) w0 p0 r.left r.spent pl (w6.setCell ⟨p0, 5, none⟩ (.slice a6 pl.length k6)) := ⟨a6, k6, q1, q2, q3⟩
                  have HP7 := Lib.hid hP7
                  clear q1 q2 q3 hr6 hB6 hbw6 hP7
                  go_wp2_with fail
                  refine ⟨⟨j + 1, r.left, r.spent, by omega, by go_num, by have := HOR.out.left; omega, fun h => ?_, fun h => ?_, HP7.out⟩, by simp [intOf]; omega⟩
                  · rw [← HT.out, try_next HOKP.out (by omega) (by rw [Nat.add_sub_cancel, ← HRr.out]; exact hf) (by rw [Nat.add_sub_cancel, ← HRr.out]; exact h), Nat.add_sub_cancel, ← HRr.out]
                  · refine ⟨HOR.out.spent h, ?_⟩
                    rw [← HT.out, try_deep HOKP.out (by omega) (by rw [Nat.add_sub_cancel, ← HRr.out]; exact hf) (by rw [Nat.add_sub_cancel, ← HRr.out]; exact h), Nat.add_sub_cancel, ← HRr.out, HOR.out.spent h]
                · have E := Lib.hid (show R = r by rw [← HT.out, HRr.out]; exact try_found HOKP.out (by omega) (by rw [Nat.add_sub_cancel, ← HRr.out]; exact hf))
                  go_wp2
                  go_ret
                  rw [E.out]
                  exact ⟨ret_bool hf.symm, hP6⟩
            · obtain ⟨e0, e1⟩ := hs.out rfl
              have E := Lib.hid e1; have E0 := Lib.hid e0; clear e0 e1
              go_wp2
              go_ret
              have e0 := E0.out
              subst e0
              rw [E.out]
              exact ⟨rfl, a2, cap2, hB2, hr2, hbw2⟩
        · have HOKP := Lib.hid hok
          by_cases hin : (j : Int) ∈ pl
          · have HC := Lib.hid (show ¬ canP bays list pl pl.length j from fun h => hok ⟨.inl hin, h⟩)
            have HIN := Lib.hid (yesB hin)
            clear hok hin hu
            go_wp2_with fail
            refine wp_region_ord [(0, true), (1, true), (2, true), (3, true), (4, true), (5, false), (6, true), (7, true), (8, true), (10, true), (11, true), (12, true), (13, true), (9, false), (14, true), (15, true), (16, true), (17, true), (18, true), (19, true), (20, true), (21, true), (22, true), (23, true), (24, true), (25, true), (26, true), (27, true), (28, true), (29, true), (30, true), (31, false), (32, true), (33, true)] (none) (by kernel_rfl) (by kernel_rfl) ?_
            (repeat (with_reducible refine wpOrd_soft (fun K hK => ?_); simp only [List.getElem?_toArray, List.getElem?_cons_zero, List.getElem?_cons_succ]; first | (go_simp; refine hK _ ?_) | (simp only [undef]; go_simp; refine hK _ ?_); clear hK K))
            (with_reducible refine wpOrd_hard ?_; simp only [List.getElem?_toArray, List.getElem?_cons_zero, List.getElem?_cons_succ])
            go_wp2_with fail
            refine (containsI_any true _ pl j _ (HI.out.mono (by (repeat (first | with_reducible exact Below.refl _ _ | with_reducible exact hbw | (with_reducible refine Below.setCell ?_ ?_ _; rotate_left; · first | exact Nat.le_refl _ | omega | (simp; done) | (simp; omega)) | (with_reducible refine Below.alloc ?_ ?_ _; rotate_left; · first | exact Nat.le_refl _ | omega | (simp; done) | (simp; omega)) | with_reducible refine below_drewN ?_ _ | with_reducible refine Below.drew ?_)))) HIN.out).mono ?_
            rintro e w1 ⟨rfl, hq1⟩
            have hb1 : Below wr.heap.size wr w1 := undrew (hq1.below _)
            go_wp2_with fail
            refine ⟨grown_of_below hb1, ?_⟩
            (repeat (with_reducible refine wpOrd_soft (fun K hK => ?_); simp only [List.getElem?_toArray, List.getElem?_cons_zero, List.getElem?_cons_succ]; first | (go_simp; refine hK _ ?_) | (simp only [undef]; go_simp; refine hK _ ?_); clear hK K))
            (with_reducible refine wpOrd_skip ?_ (fun K hK => ?_); exact grown_of_below hb1; simp only [List.getElem?_toArray, List.getElem?_cons_zero, List.getElem?_cons_succ]; first | (go_simp; refine hK _ ?_) | (simp only [undef]; go_simp; refine hK _ ?_); clear hK K)
            (repeat (with_reducible refine wpOrd_soft (fun K hK => ?_); simp only [List.getElem?_toArray, List.getElem?_cons_zero, List.getElem?_cons_succ]; first | (go_simp; refine hK _ ?_) | (simp only [undef]; go_simp; refine hK _ ?_); clear hK K))
            (with_reducible refine wpOrd_hard ?_; simp only [List.getElem?_toArray, List.getElem?_cons_zero, List.getElem?_cons_succ])
            go_wp2_with fail
            refine (canBe_any false _ _ _ bays list pl pl.length j _ (((hb.mono HW0.out).mono hb1).mono (by (repeat (first | with_reducible exact Below.refl _ _ | with_reducible exact hbw | (with_reducible refine Below.setCell ?_ ?_ _; rotate_left; · first | exact Nat.le_refl _ | omega | (simp; done) | (simp; omega)) | (with_reducible refine Below.alloc ?_ ?_ _; rotate_left; · first | exact Nat.le_refl _ | omega | (simp; done) | (simp; omega)) | with_reducible refine below_drewN ?_ _ | with_reducible refine Below.drew ?_)))) (((hl.mono HW0.out).mono hb1).mono (by (repeat (first | with_reducible exact Below.refl _ _ | with_reducible exact hbw | (with_reducible refine Below.setCell ?_ ?_ _; rotate_left; · first | exact Nat.le_refl _ | omega | (simp; done) | (simp; omega)) | (with_reducible refine Below.alloc ?_ ?_ _; rotate_left; · first | exact Nat.le_refl _ | omega | (simp; done) | (simp; omega)) | with_reducible refine below_drewN ?_ _ | with_reducible refine Below.drew ?_)))) ((HI.out.mono hb1).mono (by (repeat (first | with_reducible exact Below.refl _ _ | with_reducible exact hbw | (with_reducible refine Below.setCell ?_ ?_ _; rotate_left; · first | exact Nat.le_refl _ | omega | (simp; done) | (simp; omega)) | (with_reducible refine Below.alloc ?_ ?_ _; rotate_left; · first | exact Nat.le_refl _ | omega | (simp; done) | (simp; omega)) | with_reducible refine below_drewN ?_ _ | with_reducible refine Below.drew ?_)))) OK.out rfl hk2 hlt ⟨(fun h => by cases h), fun h => absurd h HC.out⟩).mono ?_
            rintro e w2 ⟨rfl, hb2⟩
            have hb2 : Below wr.heap.size wr w2 := hb1.trans (Below.mono hb2 hb1.size)
            go_wp2_with fail
            refine ⟨grown_of_below hb2, ?_⟩
            (repeat (with_reducible refine wpOrd_soft (fun K hK => ?_); simp only [List.getElem?_toArray, List.getElem?_cons_zero, List.getElem?_cons_succ]; first | (go_simp; refine hK _ ?_) | (simp only [undef]; go_simp; refine hK _ ?_); clear hK K))
            (with_reducible refine wpOrd_nil ?_); refine NoPanic.normal ?_
            clear c0 c1 c2 c3 c4 c5 l0
            go_wp2
            go_roundw
            case rel => exact ⟨j + 1, left', sp, by omega, by go_num, hleft', (fun h => by have := ht.out h; rw [hn1, try_skip HOKP.out] at this; exact this), hs.out, HP.out.mono hb2⟩
            case measure => simp [intOf]; omega
          · by_cases hu2 : u < (most : Int)
            · have HC := Lib.hid (show ¬ canP bays list pl pl.length j from fun h => hok ⟨.inr (by omega), h⟩)
              have d1 : decide ((most : Int) ≤ u) = false := decide_eq_false (by omega)
              have HIN := Lib.hid (noB hin)
              clear hok hin hu
              go_wp2_with fail
              refine wp_region_ord [(0, true), (1, true), (2, true), (3, true), (4, true), (5, false), (6, true), (7, true), (8, true), (10, true), (11, true), (12, true), (13, true), (9, false), (14, true), (15, true), (16, true), (17, true), (18, true), (19, true), (20, true), (21, true), (22, true), (23, true), (24, true), (25, true), (26, true), (27, true), (28, true), (29, true), (30, true), (31, false), (32, true), (33, true)] (none) (by kernel_rfl) (by kernel_rfl) ?_
              (repeat (with_reducible refine wpOrd_soft (fun K hK => ?_); simp only [List.getElem?_toArray, List.getElem?_cons_zero, List.getElem?_cons_succ]; first | (go_simp; refine hK _ ?_) | (simp only [undef]; go_simp; refine hK _ ?_); clear hK K))
              (with_reducible refine wpOrd_hard ?_; simp only [List.getElem?_toArray, List.getElem?_cons_zero, List.getElem?_cons_succ])
              go_wp2_with fail
              refine (containsI_any false _ pl j _ (HI.out.mono (by (repeat (first | with_reducible exact Below.refl _ _ | with_reducible exact hbw | (with_reducible refine Below.setCell ?_ ?_ _; rotate_left; · first | exact Nat.le_refl _ | omega | (simp; done) | (simp; omega)) | (with_reducible refine Below.alloc ?_ ?_ _; rotate_left; · first | exact Nat.le_refl _ | omega | (simp; done) | (simp; omega)) | with_reducible refine below_drewN ?_ _ | with_reducible refine Below.drew ?_)))) HIN.out).mono ?_
              rintro e w1 ⟨rfl, hq1⟩
              have hb1 : Below wr.heap.size wr w1 := undrew (hq1.below _)
              go_wp2_with fail
              refine ⟨grown_of_below hb1, ?_⟩
              (repeat (with_reducible refine wpOrd_soft (fun K hK => ?_); simp only [List.getElem?_toArray, List.getElem?_cons_zero, List.getElem?_cons_succ]; first | (go_simp; refine hK _ ?_) | (simp only [undef]; go_simp; refine hK _ ?_); clear hK K))
              (with_reducible refine wpOrd_hard ?_; simp only [List.getElem?_toArray, List.getElem?_cons_zero, List.getElem?_cons_succ])
              go_wp2_with fail
              refine (used_any u _ _ most p0 left' sp pl w0 _ ((HP.out.mono hb1).mono (by (repeat (first | with_reducible exact Below.refl _ _ | with_reducible exact hbw | (with_reducible refine Below.setCell ?_ ?_ _; rotate_left; · first | exact Nat.le_refl _ | omega | (simp; done) | (simp; omega)) | (with_reducible refine Below.alloc ?_ ?_ _; rotate_left; · first | exact Nat.le_refl _ | omega | (simp; done) | (simp; omega)) | with_reducible refine below_drewN ?_ _ | with_reducible refine Below.drew ?_)))) (by omega) HU.out).mono ?_
              rintro e w1' ⟨rfl, hb1'⟩
              have hb1 : Below wr.heap.size wr w1' := hb1.trans (Below.mono hb1' hb1.size)
              go_wp2_with fail
              refine ⟨grown_of_below hb1, ?_⟩
              (repeat (with_reducible refine wpOrd_soft (fun K hK => ?_); simp only [List.getElem?_toArray, List.getElem?_cons_zero, List.getElem?_cons_succ]; first | (go_simp; refine hK _ ?_) | (simp only [undef]; go_simp; refine hK _ ?_); clear hK K))
              (with_reducible refine wpOrd_hard ?_; simp only [List.getElem?_toArray, List.getElem?_cons_zero, List.getElem?_cons_succ])
              go_wp2_with fail
              refine (canBe_any false _ _ _ bays list pl pl.length j _ (((hb.mono HW0.out).mono hb1).mono (by (repeat (first | with_reducible exact Below.refl _ _ | with_reducible exact hbw | (with_reducible refine Below.setCell ?_ ?_ _; rotate_left; · first | exact Nat.le_refl _ | omega | (simp; done) | (simp; omega)) | (with_reducible refine Below.alloc ?_ ?_ _; rotate_left; · first | exact Nat.le_refl _ | omega | (simp; done) | (simp; omega)) | with_reducible refine below_drewN ?_ _ | with_reducible refine Below.drew ?_)))) (((hl.mono HW0.out).mono hb1).mono (by (repeat (first | with_reducible exact Below.refl _ _ | with_reducible exact hbw | (with_reducible refine Below.setCell ?_ ?_ _; rotate_left; · first | exact Nat.le_refl _ | omega | (simp; done) | (simp; omega)) | (with_reducible refine Below.alloc ?_ ?_ _; rotate_left; · first | exact Nat.le_refl _ | omega | (simp; done) | (simp; omega)) | with_reducible refine below_drewN ?_ _ | with_reducible refine Below.drew ?_)))) ((HI.out.mono hb1).mono (by (repeat (first | with_reducible exact Below.refl _ _ | with_reducible exact hbw | (with_reducible refine Below.setCell ?_ ?_ _; rotate_left; · first | exact Nat.le_refl _ | omega | (simp; done) | (simp; omega)) | (with_reducible refine Below.alloc ?_ ?_ _; rotate_left; · first | exact Nat.le_refl _ | omega | (simp; done) | (simp; omega)) | with_reducible refine below_drewN ?_ _ | with_reducible refine Below.drew ?_)))) OK.out rfl hk2 hlt ⟨(fun h => by cases h), fun h => absurd h HC.out⟩).mono ?_
              rintro e w2 ⟨rfl, hb2⟩
              have hb2 : Below wr.heap.size wr w2 := hb1.trans (Below.mono hb2 hb1.size)
              go_wp2_with fail
              refine ⟨grown_of_below hb2, ?_⟩
              (repeat (with_reducible refine wpOrd_soft (fun K hK => ?_); simp only [List.getElem?_toArray, List.getElem?_cons_zero, List.getElem?_cons_succ]; first | (go_simp; refine hK _ ?_) | (simp only [undef]; go_simp; refine hK _ ?_); clear hK K))
              (with_reducible refine wpOrd_nil ?_); refine NoPanic.normal ?_
              clear c0 c1 c2 c3 c4 c5 l0
              go_wp2
              go_roundw
              case rel => exact ⟨j + 1, left', sp, by omega, by go_num, hleft', (fun h => by have := ht.out h; rw [hn1, try_skip HOKP.out] at this; exact this), hs.out, HP.out.mono hb2⟩
              case measure => simp [intOf]; omega
            · have d1 : decide ((most : Int) ≤ u) = true := decide_eq_true (by omega)
              have HIN := Lib.hid (noB hin)
              clear hok hin hu
              go_wp2_with fail
              refine wp_region_ord [(0, true), (1, true), (2, true), (3, true), (4, true), (5, false), (6, true), (7, true), (8, true), (10, true), (11, true), (12, true), (13, true), (9, false), (14, true), (15, true), (16, true), (17, true), (18, true), (19, true), (20, true), (21, true), (22, true), (23, true), (24, true), (25, true), (26, true), (27, true), (28, true), (29, true), (30, true), (31, false), (32, true), (33, true)] (none) (by kernel_rfl) (by kernel_rfl) ?_
              (repeat (with_reducible refine wpOrd_soft (fun K hK => ?_); simp only [List.getElem?_toArray, List.getElem?_cons_zero, List.getElem?_cons_succ]; first | (go_simp; refine hK _ ?_) | (simp only [undef]; go_simp; refine hK _ ?_); clear hK K))
              (with_reducible refine wpOrd_hard ?_; simp only [List.getElem?_toArray, List.getElem?_cons_zero, List.getElem?_cons_succ])
              go_wp2_with fail
              refine (containsI_any false _ pl j _ (HI.out.mono (by (repeat (first | with_reducible exact Below.refl _ _ | with_reducible exact hbw | (with_reducible refine Below.setCell ?_ ?_ _; rotate_left; · first | exact Nat.le_refl _ | omega | (simp; done) | (simp; omega)) | (with_reducible refine Below.alloc ?_ ?_ _; rotate_left; · first | exact Nat.le_refl _ | omega | (simp; done) | (simp; omega)) | with_reducible refine below_drewN ?_ _ | with_reducible refine Below.drew ?_)))) HIN.out).mono ?_
              rintro e w1 ⟨rfl, hq1⟩
              have hb1 : Below wr.heap.size wr w1 := undrew (hq1.below _)
              go_wp2_with fail
              refine ⟨grown_of_below hb1, ?_⟩
              (repeat (with_reducible refine wpOrd_soft (fun K hK => ?_); simp only [List.getElem?_toArray, List.getElem?_cons_zero, List.getElem?_cons_succ]; first | (go_simp; refine hK _ ?_) | (simp only [undef]; go_simp; refine hK _ ?_); clear hK K))
              (with_reducible refine wpOrd_hard ?_; simp only [List.getElem?_toArray, List.getElem?_cons_zero, List.getElem?_cons_succ])
              go_wp2_with fail
              refine (used_any u _ _ most p0 left' sp pl w0 _ ((HP.out.mono hb1).mono (by (repeat (first | with_reducible exact Below.refl _ _ | with_reducible exact hbw | (with_reducible refine Below.setCell ?_ ?_ _; rotate_left; · first | exact Nat.le_refl _ | omega | (simp; done) | (simp; omega)) | (with_reducible refine Below.alloc ?_ ?_ _; rotate_left; · first | exact Nat.le_refl _ | omega | (simp; done) | (simp; omega)) | with_reducible refine below_drewN ?_ _ | with_reducible refine Below.drew ?_)))) (by omega) HU.out).mono ?_
              rintro e w1' ⟨rfl, hb1'⟩
              have hb1 : Below wr.heap.size wr w1' := hb1.trans (Below.mono hb1' hb1.size)
              go_wp2_with fail
              refine ⟨grown_of_below hb1, ?_⟩
              (repeat (with_reducible refine wpOrd_soft (fun K hK => ?_); simp only [List.getElem?_toArray, List.getElem?_cons_zero, List.getElem?_cons_succ]; first | (go_simp; refine hK _ ?_) | (simp only [undef]; go_simp; refine hK _ ?_); clear hK K))
              (with_reducible refine wpOrd_skip ?_ (fun K hK => ?_); exact grown_of_below hb1; simp only [List.getElem?_toArray, List.getElem?_cons_zero, List.getElem?_cons_succ]; first | (go_simp; refine hK _ ?_) | (simp only [undef]; go_simp; refine hK _ ?_); clear hK K)
              (repeat (with_reducible refine wpOrd_soft (fun K hK => ?_); simp only [List.getElem?_toArray, List.getElem?_cons_zero, List.getElem?_cons_succ]; first | (go_simp; refine hK _ ?_) | (simp only [undef]; go_simp; refine hK _ ?_); clear hK K))
              (with_reducible refine wpOrd_nil ?_); refine NoPanic.normal ?_
              have hb2 := hb1
              clear c0 c1 c2 c3 c4 c5 l0
              go_wp2
              go_roundw
              case rel => exact ⟨j + 1, left', sp, by omega, by go_num, hleft', (fun h => by have := ht.out h; rw [hn1, try_skip HOKP.out] at this; exact this), hs.out, HP.out.mono hb2⟩
              case measure => simp [intOf]; omega
      · obtain rfl : j = bays.length := by omega
        go_wp2
        go_ret
        cases sp
        · have E := ht.out rfl
          rw [Nat.sub_self, try_end] at E
          rw [← E]
          exact ⟨rfl, HP.out⟩
        · obtain ⟨e0, e1⟩ := hs.out rfl
          have hPp := HP.out
          rw [e0] at hPp
          rw [e1]
          exact ⟨rfl, hPp⟩

end Go.Proofs.Yteaijhmgfddjiaa
