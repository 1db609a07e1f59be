/- The reference's search for places. -/
import Derived.Test.YteaijhmgfddjiaaBayR
set_option linter.unusedSimpArgs false
set_option linter.unnecessarySimpa false
set_option linter.unusedVariables false
set_option maxRecDepth 100000
namespace Go.Proofs.Yteaijhmgfddjiaa
open Go.RowKit

theorem notes_snoc (ns : List Int) (n : Int) : notesOfL (ns ++ [n]) = putI (notesOfL ns) n := by unfold notesOfL; rw [List.foldl_append]; rfl
theorem notes_take {pl : List Int} {k : Nat} (h : k < pl.length) : putI (notesOfL (pl.take k)) pl[k] = notesOfL (pl.take (k + 1)) := by rw [List.take_succ_eq_append_getElem h, notes_snoc]

set_option maxHeartbeats 2000000 in
theorem run_any (bays : List BayD) (list : List CasD) (vb vl : Value) (most p0 budget : Nat) (w0 : World) (hb : RdBayDs w0 vb bays) (hl : RdCasDs w0 vl list) (h0 : w0.heap.size = p0) (ok : ∀ x ∈ list, casOk x) (lb : bays.length ≤ 8) (ll : list.length ≤ 12) (hm : most ≤ 1000) (hbud : budget ≤ 20000) :
    ∀ (d : Nat) (pl : List Int) (left : Nat) (w : World), pl.length + d = list.length → plIn bays.length pl → left ≤ budget → Plc (fS vb vl budget most) w0 p0 left false pl w →
    Calls Try.prog 50 #[.pointer (some ⟨p0, 0, none⟩)] w fun e w' => e = .returned (.bool (runB bays list most d pl left).found) ∧ Plc (fS vb vl budget most) w0 p0 (runB bays list most d pl left).left (runB bays list most d pl left).spent (runB bays list most d pl left).pl w' := by
  obtain ⟨a1, k1, rfl, m1⟩ := hb.form'
  obtain ⟨a9, k9, rfl, m9⟩ := hl.form'
  have OK := Lib.hid ok; clear ok
  have H0 := Lib.hid h0; clear h0
  intro d
  induction d with
  | zero =>
    intro pl left w hlen hin hleft hP
    obtain ⟨a, cap, hB, hr, hbw⟩ := id hP
    have c1 := hB.at' 1 _ rfl
    have c2 := hB.at' 2 _ rfl
    have l0 := hB.lt
    have d0 : ((pl.length : Int) == (list.length : Int)) = true := by rw [beq_iff_eq]; omega
    clear hlen hr
    go_enter Try.func50, Try.ntmps50
    go_wp2
    go_ret
    exact ⟨rfl, hP⟩
  | succ d ih =>
    intro pl left w hlen hin hleft hP
    obtain ⟨R, hR⟩ : ∃ R, R = runB bays list most (d + 1) pl left := ⟨_, rfl⟩
    have HR := Lib.hid (show tryB (runB bays list most d) (okP bays list most pl) pl bays.length 0 left = R from hR.symm)
    rw [← hR]
    clear hR
    obtain ⟨a, cap, hB, hr, hbw⟩ := id hP
    have c1 := hB.at' 1 _ rfl
    have c2 := hB.at' 2 _ rfl
    have l0 := hB.lt
    have d0 : ((pl.length : Int) == (list.length : Int)) = false := beq_eq_false_iff_ne.2 (by omega)
    have hk2 : pl.length < list.length := by omega
    have HL := Lib.hid hlen
    have HIN0 := Lib.hid hin
    clear hlen hr hin
    go_enter Try.func50, Try.ntmps50
    go_wp2_with fail
    clear c1 c2 l0 hB hbw
    go_loopw [4, 5, 6] (fun i _ _ wr => ∃ (j left' : Nat) (sp : Bool), j ≤ bays.length ∧ i = .int .i64 j ∧ left' ≤ left ∧ (sp = false → tryB (runB bays list most d) (okP bays list most pl) pl (bays.length - j) j left' = R) ∧ (sp = true → left' = 0 ∧ R = ⟨false, pl, 0, true⟩) ∧ Plc (fS (.slice a1 bays.length k1) (.slice a9 list.length k9) budget most) w0 p0 left' sp pl wr) (fun i _ _ _ => bays.length - (intOf i).toNat)
    case atStart => exact ⟨0, left, false, Nat.zero_le _, by go_num, Nat.le_refl _, fun _ => HR.out, (fun h => by cases h), hP⟩
    case round =>
      obtain ⟨j, left', sp, hj, rfl, hleft', ht', hs', hPr⟩ := hrel
      have ht := Lib.hid ht'; have hs := Lib.hid hs'; have HP := Lib.hid hPr
      clear ht' hs' hP
      obtain ⟨a2, cap2, hB, hr, hbw⟩ := hPr
      have c0 := hB.at' 0 _ rfl
      by_cases hlt : j < bays.length
      · have hn1 : bays.length - j = bays.length - (j + 1) + 1 := by omega
        have HI := Lib.hid (show Ints wr (.slice a2 pl.length cap2) pl from Sl.of_owns hr)
        have HW0 := Lib.hid (show Below w0.heap.size w0 wr by rw [H0.out]; exact hbw)
        have HB := Lib.hid hB
        clear hB hr hbw
        go_wp2_with fail
        obtain ⟨wo, rfl⟩ : ∃ wo : World, wo = wr := ⟨_, rfl⟩
        clear c0
        go_loopw [5, 6] (fun u i wi => ∃ (q : Nat) (au : Option Addr) (cu : Nat), q ≤ pl.length ∧ i = .int .i64 q ∧ u = .slice au (notesOfL (pl.take q)).length cu ∧ Ints wi (.slice au (notesOfL (pl.take q)).length cu) (notesOfL (pl.take q)) ∧ Below wo.heap.size wo wi) (fun _ i _ => pl.length - (intOf i).toNat)
        case atStart => exact ⟨0, _, _, Nat.zero_le _, by go_num, rfl, Sl.of_owns (owns_empty _ 2 1 0 (Nat.zero_le _)), by (repeat (first | with_reducible exact Below.refl _ _ | with_reducible exact hbw | (with_reducible refine Below.setCell ?_ ?_ _; rotate_left; · first | exact Nat.le_refl _ | omega | (simp; done) | (simp; omega)) | (with_reducible refine Below.alloc ?_ ?_ _; rotate_left; · first | exact Nat.le_refl _ | omega | (simp; done) | (simp; omega)) | with_reducible refine below_drewN ?_ _ | with_reducible refine Below.drew ?_))⟩
        case round =>
          obtain ⟨q, au, cu, hq, rfl, rfl, hui, hbi⟩ := hrel
          have hB := HB.out.mono hbi
          by_cases hltq : q < pl.length
          · have c2 := hB.at' 2 _ rfl
            have l0 := hB.lt
            obtain ⟨b3, o3, rfl, cp⟩ := (HI.out.mono hbi).cells (by simp; omega)
            have p1 : wr.cell? ⟨b3, o3 + q, none⟩ = some (.int .i64 pl[q]) := cp q _ (by simp [hltq])
            have hnl := notesOfL_len (pl.take q)
            rw [List.length_take] at hnl
            have HNT := Lib.hid (notes_take hltq)
            have HUI := Lib.hid hui
            clear cp hB hui
            go_wp2_with fail
            refine (l00Put_any _ (notesOfL (pl.take q)) pl[q] _ HUI.out (by omega)).mono ?_
            rintro e w2 ⟨v2, rfl, ho2, hb2⟩
            rw [HNT.out] at ho2
            obtain ⟨a', c', rfl⟩ := owns_slice ho2
            have HO2 := Lib.hid ho2; clear ho2
            go_wp2
            go_roundw
            case rel => exact ⟨q + 1, a', c', by omega, by go_num, rfl, Sl.of_owns HO2.out, hbi.trans (hb2.mono hbi.size)⟩
            case measure => simp [intOf]; omega
          · obtain rfl : q = pl.length := by omega
            simp only [List.take_length] at hui ⊢
            obtain ⟨ul, hul⟩ : ∃ ul, ul = notesOfL pl := ⟨_, rfl⟩
            rw [← hul] at hui ⊢
            have HUL := Lib.hid hul; clear hul
            have HUI := Lib.hid hui; clear hui
            have HP := Lib.hid (HP.out.mono hbi)
            have HI := Lib.hid (HI.out.mono hbi)
            have HW0 := Lib.hid (HW0.out.trans (hbi.mono HW0.out.size))
            have c0 := hB.at' 0 _ rfl
            have c1 := hB.at' 1 _ rfl
            have c2 := hB.at' 2 _ rfl
            have c3 := hB.at' 3 _ rfl
            have c4 := hB.at' 4 _ rfl
            have c5 := hB.at' 5 _ rfl
            have c6 := hB.at' 6 _ rfl
            have l0 := hB.lt
            clear hB hbi HB
            have i1 : (j : Int) < (bays.length : Int) := by omega
            by_cases hok : okP bays list most pl j
            · have HOKP := Lib.hid hok
              have HC := Lib.hid hok.2
              by_cases hin : (j : Int) ∈ pl
              · have HIN := Lib.hid (show true = decide ((j : Int) ∈ ul) by rw [HUL.out]; exact yesB ((notesOfL_mem pl _).2 hin))
                clear hok hin
                go_wp2_with fail
                go_quiet (first | (go_at_call 73; exact quiet_q (l00HasB_any true _ _ j _ (Ints.mono HUI.out (Below.drawN _)) HIN.out)) | (go_at_call 74; exact quiet_q (l16Possible_any true _ _ _ bays list pl pl.length j _ ((hb.mono HW0.out).mono (Below.drawN _)) ((hl.mono HW0.out).mono (Below.drawN _)) (Ints.mono HI.out (Below.drawN _)) OK.out rfl hk2 hlt ⟨fun _ => HC.out, fun _ => rfl⟩)))
                clear c0 c1 c2 c3 c4 c5 c6 l0
                have hP2 := HP.out.drewN nq
                obtain ⟨w2, hw2⟩ : ∃ w2, w2 = wr.drewN nq := ⟨_, rfl⟩
                rw [← hw2] at hP2 ⊢
                clear hw2
                obtain ⟨a2, cap2, hB2, hr2, hbw2⟩ := hP2
                obtain ⟨nd, hnd⟩ : ∃ nd, nd = budget - left' := ⟨_, rfl⟩
                have hB2' : Box w2 p0 [.slice a1 bays.length k1, .slice a9 list.length k9, .slice a2 pl.length cap2, .int .i64 (most : Int), .int .i64 (nd : Int), .int .i64 (budget : Int), .bool sp] := by rw [hnd]; exact hB2
                have c4 := hB2'.at' 4 _ rfl
                have c5 := hB2'.at' 5 _ rfl
                have c6 := hB2'.at' 6 _ rfl
                have f4 := hB2'.fr 4
                have f6 := hB2'.fr 6
                have l0 := hB2'.lt
                have HND := Lib.hid hnd; clear hnd
                rcases left' with _ | m
                · have E := Lib.hid (show R = ⟨false, pl, 0, true⟩ by
                    cases sp
                    · rw [← ht.out rfl, hn1, try_spent HOKP.out rfl]
                    · exact (hs.out rfl).2)
                  have d2 : ((nd : Int) == (budget : Int)) = true := by have := HND.out; rw [beq_iff_eq]; omega
                  obtain ⟨q1, q2, q3⟩ := set_box hB2 hr2 hbw2 (.bool true) (j := 6) (by simp [fS])
                  have HQ1 := Lib.hid q1; have HQ2 := Lib.hid q2; have HQ3 := Lib.hid q3
                  clear q1 q2 q3 hB2 hr2 hbw2 hB2'
                  go_wp2
                  go_quiet (fail)
                  go_wp2
                  go_ret
                  rw [E.out]
                  exact ⟨rfl, Plc.drewN ⟨a2, cap2, HQ1.out, HQ2.out, HQ3.out⟩ _⟩
                · have d2 : ((nd : Int) == (budget : Int)) = false := beq_eq_false_iff_ne.2 (by have := HND.out; omega)
                  have hsp : sp = false := by
                    cases sp
                    · rfl
                    · exact absurd (hs.out rfl).1 (by omega)
                  subst hsp
                  have hT : tryB (runB bays list most d) (okP bays list most pl) pl (bays.length - (j + 1) + 1) j (m + 1) = R := by rw [← hn1]; exact ht.out rfl
                  have HT := Lib.hid hT; clear hT
                  go_wp2
                  go_quiet (fail)
                  have hP3 : Plc (fS (.slice a1 bays.length k1) (.slice a9 list.length k9) budget most) w0 p0 (m + 1) false pl (w2.drewN nq) := Plc.drewN ⟨a2, cap2, hB2, hr2, hbw2⟩ nq
                  obtain ⟨w3, hw3⟩ : ∃ w3, w3 = w2.drewN nq := ⟨_, rfl⟩
                  rw [← hw3] at hP3 ⊢
                  clear hw3 c4 c5 c6 f4 f6 l0 hB2 hr2 hbw2 hB2'
                  obtain ⟨a3, cap3, hB3, hr3, hbw3⟩ := hP3
                  have hB3' : Box w3 p0 [.slice a1 bays.length k1, .slice a9 list.length k9, .slice a3 pl.length cap3, .int .i64 (most : Int), .int .i64 (nd : Int), .int .i64 (budget : Int), .bool false] := by rw [HND.out]; exact hB3
                  have c2 := hB3'.at' 2 _ rfl
                  have c4 := hB3'.at' 4 _ rfl
                  have c6 := hB3'.at' 6 _ rfl
                  have f4 := hB3'.fr 4
                  have l3 := hB3'.lt
                  have n20 : nd ≤ 20000 := by have := HND.out; omega
                  obtain ⟨s1, s2, s3⟩ := set_box hB3' hr3 hbw3 (.int .i64 ((nd : Int) + 1)) (j := 4) (by simp)
                  have S1 := Lib.hid (show Box (w3.setCell ⟨p0, 4, none⟩ (.int .i64 ((nd : Int) + 1))) p0 (fS (.slice a1 bays.length k1) (.slice a9 list.length k9) budget most m false (.slice a3 pl.length cap3)) by
                    have e : (((budget - m : Nat)) : Int) = (nd : Int) + 1 := by have := HND.out; omega
                    unfold fS; rw [e]; exact s1)
                  have S2 := Lib.hid s2; have S3 := Lib.hid s3
                  clear s1 s2 s3 hB3 hr3 hbw3 hB3'
                  go_wp2_with (at_builtin; refine append_one_at rfl _ _ 28 rfl (p0 + 1) 2 (.int .i64 0) 1 8 Try.underlying28 info_int rfl (by decide) _ pl.length _ rfl S2.out [.int .i64 (j : Int)] rfl (by simp [Value.oneCell']) w3.heap.size (by simp) rfl (by omega) (by decide) S1.out.lt ?_)
                  intro a4 k4 w4 ho4 hg4 hb4 _
                  have hB4 := S1.out.step hb4 (Nat.lt_succ_self _)
                  have hb04 : Below p0 w0 w4 := S3.out.trans (hb4.mono (Nat.le_succ _))
                  clear hg4 c2 c4 c6 f4 l3
                  have c2 := hB4.at' 2 _ rfl
                  have f2 := hB4.fr 2
                  have l4 := hB4.lt
                  go_wp2_with fail
                  obtain ⟨w5, hw5⟩ : ∃ w5, w5 = w4.setCell ⟨p0, 2, none⟩ (.slice a4 (pl.length + 1) k4) := ⟨_, rfl⟩
                  rw [← hw5]
                  obtain ⟨q1, q2, q3⟩ := set_box hB4 ho4 hb04 (.slice a4 (pl.length + 1) k4) (j := 2) (by simp [fS])
                  rw [← hw5] at q1 q2 q3
                  have hP5 : Plc (fS (.slice a1 bays.length k1) (.slice a9 list.length k9) budget most) w0 p0 m false (pl ++ [(j : Int)]) w5 := ⟨a4, k4, by rw [List.length_append]; exact q1, by rw [List.length_append, List.map_append]; exact q2, q3⟩
                  clear q1 q2 q3 hw5 hB4 hb4 ho4 hb04 c2 f2 l4
                  refine (ih (pl ++ [(j : Int)]) m _ (by rw [List.length_append]; have := HL.out; simp only [List.length_singleton]; omega) (plIn_snoc HIN0.out hlt) (by omega) hP5).mono ?_
                  rintro e w6 ⟨rfl, hP6⟩
                  have hok := run_ok bays list most d (pl ++ [(j : Int)]) m (plIn_snoc HIN0.out hlt)
                  obtain ⟨r, hr⟩ : ∃ r, r = runB bays list most d (pl ++ [(j : Int)]) m := ⟨_, rfl⟩
                  rw [← hr] at hP6 hok ⊢
                  have HRr := Lib.hid hr; clear hr
                  cases hf : r.found
                  · have hpl := hok.none hf
                    rw [hpl] at hP6
                    have HOR := Lib.hid hok; have HPL := Lib.hid hpl; clear hok hpl
                    obtain ⟨a6, k6, hB6, hr6, hbw6⟩ := hP6
                    have hsl := Sl.of_owns hr6
                    obtain ⟨_, _, e6, hca6, hcm6, _⟩ := hsl
                    cases e6
                    rw [List.length_append, List.length_singleton] at hB6 hr6 hca6
                    have c2 := hB6.at' 2 _ rfl
                    have f2 := hB6.fr 2
                    have l6 := hB6.lt
                    have i6 : pl.length ≤ k6 := by omega
                    unfold maxLen at hcm6
                    obtain ⟨q1, q2, q3⟩ := set_box hB6 (owns_take hr6 (Nat.le_succ pl.length)) hbw6 (.slice a6 pl.length k6) (j := 2) (by simp [fS])
                    rw [List.map_append, List.take_left' (by simp)] at q2
                    have hP7 : Plc (fS (.slice a1 bays.length k1) (.slice a9 list.length k9) budget most) w0 p0 r.left r.spent pl (w6.setCell ⟨p0, 2, none⟩ (.slice a6 pl.length k6)) := ⟨a6, k6, q1, q2, q3⟩
                    have HP7 := Lib.hid hP7
                    clear q1 q2 q3 hr6 hB6 hbw6 hP7
                    go_wp2_with fail
                    refine ⟨⟨j + 1, r.left, r.spent, by omega, by go_num, by have := HOR.out.left; omega, fun h => ?_, fun h => ?_, HP7.out⟩, by simp [intOf]; omega⟩
                    · rw [← HT.out, try_next HOKP.out (by omega) (by rw [Nat.add_sub_cancel, ← HRr.out]; exact hf) (by rw [Nat.add_sub_cancel, ← HRr.out]; exact h), Nat.add_sub_cancel, ← HRr.out]
                    · refine ⟨HOR.out.spent h, ?_⟩
                      rw [← HT.out, try_deep HOKP.out (by omega) (by rw [Nat.add_sub_cancel, ← HRr.out]; exact hf) (by rw [Nat.add_sub_cancel, ← HRr.out]; exact h), Nat.add_sub_cancel, ← HRr.out, HOR.out.spent h]
                  · have E := Lib.hid (show R = r by rw [← HT.out, HRr.out]; exact try_found HOKP.out (by omega) (by rw [Nat.add_sub_cancel, ← HRr.out]; exact hf))
                    go_wp2
                    go_ret
                    rw [E.out]
                    exact ⟨ret_bool hf.symm, hP6⟩
              · have hu2 : (ul.length : Int) < (most : Int) := by
                  have := hok.1.resolve_left hin
                  rw [HUL.out]
                  omega
                have d1 : decide ((most : Int) ≤ (ul.length : Int)) = false := decide_eq_false (by omega)
                have d2 : decide (most ≤ ul.length) = false := decide_eq_false (by omega)
                have HIN := Lib.hid (show false = decide ((j : Int) ∈ ul) by rw [HUL.out]; exact noB fun h => hin ((notesOfL_mem pl _).1 h))
                clear hok hin
                go_wp2_with fail
                go_quiet (first | (go_at_call 73; exact quiet_q (l00HasB_any false _ _ j _ (Ints.mono HUI.out (Below.drawN _)) HIN.out)) | (go_at_call 74; exact quiet_q (l16Possible_any true _ _ _ bays list pl pl.length j _ ((hb.mono HW0.out).mono (Below.drawN _)) ((hl.mono HW0.out).mono (Below.drawN _)) (Ints.mono HI.out (Below.drawN _)) OK.out rfl hk2 hlt ⟨fun _ => HC.out, fun _ => rfl⟩)))
                clear c0 c1 c2 c3 c4 c5 c6 l0
                have hP2 := HP.out.drewN nq
                obtain ⟨w2, hw2⟩ : ∃ w2, w2 = wr.drewN nq := ⟨_, rfl⟩
                rw [← hw2] at hP2 ⊢
                clear hw2
                obtain ⟨a2, cap2, hB2, hr2, hbw2⟩ := hP2
                obtain ⟨nd, hnd⟩ : ∃ nd, nd = budget - left' := ⟨_, rfl⟩
                have hB2' : Box w2 p0 [.slice a1 bays.length k1, .slice a9 list.length k9, .slice a2 pl.length cap2, .int .i64 (most : Int), .int .i64 (nd : Int), .int .i64 (budget : Int), .bool sp] := by rw [hnd]; exact hB2
                have c4 := hB2'.at' 4 _ rfl
                have c5 := hB2'.at' 5 _ rfl
                have c6 := hB2'.at' 6 _ rfl
                have f4 := hB2'.fr 4
                have f6 := hB2'.fr 6
                have l0 := hB2'.lt
                have HND := Lib.hid hnd; clear hnd
                rcases left' with _ | m
                · have E := Lib.hid (show R = ⟨false, pl, 0, true⟩ by
                    cases sp
                    · rw [← ht.out rfl, hn1, try_spent HOKP.out rfl]
                    · exact (hs.out rfl).2)
                  have d2 : ((nd : Int) == (budget : Int)) = true := by have := HND.out; rw [beq_iff_eq]; omega
                  obtain ⟨q1, q2, q3⟩ := set_box hB2 hr2 hbw2 (.bool true) (j := 6) (by simp [fS])
                  have HQ1 := Lib.hid q1; have HQ2 := Lib.hid q2; have HQ3 := Lib.hid q3
                  clear q1 q2 q3 hB2 hr2 hbw2 hB2'
                  go_wp2
                  go_quiet (fail)
                  go_wp2
                  go_ret
                  rw [E.out]
                  exact ⟨rfl, Plc.drewN ⟨a2, cap2, HQ1.out, HQ2.out, HQ3.out⟩ _⟩
                · have d2 : ((nd : Int) == (budget : Int)) = false := beq_eq_false_iff_ne.2 (by have := HND.out; omega)
                  have hsp : sp = false := by
                    cases sp
                    · rfl
                    · exact absurd (hs.out rfl).1 (by omega)
                  subst hsp
                  have hT : tryB (runB bays list most d) (okP bays list most pl) pl (bays.length - (j + 1) + 1) j (m + 1) = R := by rw [← hn1]; exact ht.out rfl
                  have HT := Lib.hid hT; clear hT
                  go_wp2
                  go_quiet (fail)
                  have hP3 : Plc (fS (.slice a1 bays.length k1) (.slice a9 list.length k9) budget most) w0 p0 (m + 1) false pl (w2.drewN nq) := Plc.drewN ⟨a2, cap2, hB2, hr2, hbw2⟩ nq
                  obtain ⟨w3, hw3⟩ : ∃ w3, w3 = w2.drewN nq := ⟨_, rfl⟩
                  rw [← hw3] at hP3 ⊢
                  clear hw3 c4 c5 c6 f4 f6 l0 hB2 hr2 hbw2 hB2'
                  obtain ⟨a3, cap3, hB3, hr3, hbw3⟩ := hP3
                  have hB3' : Box w3 p0 [.slice a1 bays.length k1, .slice a9 list.length k9, .slice a3 pl.length cap3, .int .i64 (most : Int), .int .i64 (nd : Int), .int .i64 (budget : Int), .bool false] := by rw [HND.out]; exact hB3
                  have c2 := hB3'.at' 2 _ rfl
                  have c4 := hB3'.at' 4 _ rfl
                  have c6 := hB3'.at' 6 _ rfl
                  have f4 := hB3'.fr 4
                  have l3 := hB3'.lt
                  have n20 : nd ≤ 20000 := by have := HND.out; omega
                  obtain ⟨s1, s2, s3⟩ := set_box hB3' hr3 hbw3 (.int .i64 ((nd : Int) + 1)) (j := 4) (by simp)
                  have S1 := Lib.hid (show Box (w3.setCell ⟨p0, 4, none⟩ (.int .i64 ((nd : Int) + 1))) p0 (fS (.slice a1 bays.length k1) (.slice a9 list.length k9) budget most m false (.slice a3 pl.length cap3)) by
                    have e : (((budget - m : Nat)) : Int) = (nd : Int) + 1 := by have := HND.out; omega
                    unfold fS; rw [e]; exact s1)
                  have S2 := Lib.hid s2; have S3 := Lib.hid s3
                  clear s1 s2 s3 hB3 hr3 hbw3 hB3'
                  go_wp2_with (at_builtin; refine append_one_at rfl _ _ 28 rfl (p0 + 1) 2 (.int .i64 0) 1 8 Try.underlying28 info_int rfl (by decide) _ pl.length _ rfl S2.out [.int .i64 (j : Int)] rfl (by simp [Value.oneCell']) w3.heap.size (by simp) rfl (by omega) (by decide) S1.out.lt ?_)
                  intro a4 k4 w4 ho4 hg4 hb4 _
                  have hB4 := S1.out.step hb4 (Nat.lt_succ_self _)
                  have hb04 : Below p0 w0 w4 := S3.out.trans (hb4.mono (Nat.le_succ _))
                  clear hg4 c2 c4 c6 f4 l3
                  have c2 := hB4.at' 2 _ rfl
                  have f2 := hB4.fr 2
                  have l4 := hB4.lt
                  go_wp2_with fail
                  obtain ⟨w5, hw5⟩ : ∃ w5, w5 = w4.setCell ⟨p0, 2, none⟩ (.slice a4 (pl.length + 1) k4) := ⟨_, rfl⟩
                  rw [← hw5]
                  obtain ⟨q1, q2, q3⟩ := set_box hB4 ho4 hb04 (.slice a4 (pl.length + 1) k4) (j := 2) (by simp [fS])
                  rw [← hw5] at q1 q2 q3
                  have hP5 : Plc (fS (.slice a1 bays.length k1) (.slice a9 list.length k9) budget most) w0 p0 m false (pl ++ [(j : Int)]) w5 := ⟨a4, k4, by rw [List.length_append]; exact q1, by rw [List.length_append, List.map_append]; exact q2, q3⟩
                  clear q1 q2 q3 hw5 hB4 hb4 ho4 hb04 c2 f2 l4
                  refine (ih (pl ++ [(j : Int)]) m _ (by rw [List.length_append]; have := HL.out; simp only [List.length_singleton]; omega) (plIn_snoc HIN0.out hlt) (by omega) hP5).mono ?_
                  rintro e w6 ⟨rfl, hP6⟩
                  have hok := run_ok bays list most d (pl ++ [(j : Int)]) m (plIn_snoc HIN0.out hlt)
                  obtain ⟨r, hr⟩ : ∃ r, r = runB bays list most d (pl ++ [(j : Int)]) m := ⟨_, rfl⟩
                  rw [← hr] at hP6 hok ⊢
                  have HRr := Lib.hid hr; clear hr
                  cases hf : r.found
                  · have hpl := hok.none hf
                    rw [hpl] at hP6
                    have HOR := Lib.hid hok; have HPL := Lib.hid hpl; clear hok hpl
                    obtain ⟨a6, k6, hB6, hr6, hbw6⟩ := hP6
                    have hsl := Sl.of_owns hr6
                    obtain ⟨_, _, e6, hca6, hcm6, _⟩ := hsl
                    cases e6
                    rw [List.length_append, List.length_singleton] at hB6 hr6 hca6
                    have c2 := hB6.at' 2 _ rfl
                    have f2 := hB6.fr 2
                    have l6 := hB6.lt
                    have i6 : pl.length ≤ k6 := by omega
                    unfold maxLen at hcm6
                    obtain ⟨q1, q2, q3⟩ := set_box hB6 (owns_take hr6 (Nat.le_succ pl.length)) hbw6 (.slice a6 pl.length k6) (j := 2) (by simp [fS])
                    rw [List.map_append, List.take_left' (by simp)] at q2
                    have hP7 : Plc (fS (.slice a1 bays.length k1) (.slice a9 list.length k9) budget most) w0 p0 r.left r.spent pl (w6.setCell ⟨p0, 2, none⟩ (.slice a6 pl.length k6)) := ⟨a6, k6, q1, q2, q3⟩
                    have HP7 := Lib.hid hP7
                    clear q1 q2 q3 hr6 hB6 hbw6 hP7
                    go_wp2_with fail
                    refine ⟨⟨j + 1, r.left, r.spent, by omega, by go_num, by have := HOR.out.left; omega, fun h => ?_, fun h => ?_, HP7.out⟩, by simp [intOf]; omega⟩
                    · rw [← HT.out, try_next HOKP.out (by omega) (by rw [Nat.add_sub_cancel, ← HRr.out]; exact hf) (by rw [Nat.add_sub_cancel, ← HRr.out]; exact h), Nat.add_sub_cancel, ← HRr.out]
                    · refine ⟨HOR.out.spent h, ?_⟩
                      rw [← HT.out, try_deep HOKP.out (by omega) (by rw [Nat.add_sub_cancel, ← HRr.out]; exact hf) (by rw [Nat.add_sub_cancel, ← HRr.out]; exact h), Nat.add_sub_cancel, ← HRr.out, HOR.out.spent h]
                  · have E := Lib.hid (show R = r by rw [← HT.out, HRr.out]; exact try_found HOKP.out (by omega) (by rw [Nat.add_sub_cancel, ← HRr.out]; exact hf))
                    go_wp2
                    go_ret
                    rw [E.out]
                    exact ⟨ret_bool hf.symm, hP6⟩
            · have HOKP := Lib.hid hok
              by_cases hin : (j : Int) ∈ pl
              · have HC := Lib.hid (show ¬ canP bays list pl pl.length j from fun h => hok ⟨.inl hin, h⟩)
                have HIN := Lib.hid (show true = decide ((j : Int) ∈ ul) by rw [HUL.out]; exact yesB ((notesOfL_mem pl _).2 hin))
                clear hok hin
                go_wp2_with fail
                go_quiet (first | (go_at_call 73; exact quiet_q (l00HasB_any true _ _ j _ (Ints.mono HUI.out (Below.drawN _)) HIN.out)) | (go_at_call 74; exact quiet_q (l16Possible_any false _ _ _ bays list pl pl.length j _ ((hb.mono HW0.out).mono (Below.drawN _)) ((hl.mono HW0.out).mono (Below.drawN _)) (Ints.mono HI.out (Below.drawN _)) OK.out rfl hk2 hlt ⟨(fun h => by cases h), fun h => absurd h HC.out⟩)))
                clear c0 c1 c2 c3 c4 c5 c6 l0
                go_wp2
                go_roundw
                case rel => exact ⟨j + 1, left', sp, by omega, by go_num, hleft', (fun h => by have := ht.out h; rw [hn1, try_skip HOKP.out] at this; exact this), hs.out, HP.out.drewN _⟩
                case measure => simp [intOf]; omega
              · have HIN := Lib.hid (show false = decide ((j : Int) ∈ ul) by rw [HUL.out]; exact noB fun h => hin ((notesOfL_mem pl _).1 h))
                by_cases hu2 : (ul.length : Int) < (most : Int)
                · have HC := Lib.hid (show ¬ canP bays list pl pl.length j from fun h => hok ⟨.inr (by rw [HUL.out] at hu2; omega), h⟩)
                  have d1 : decide ((most : Int) ≤ (ul.length : Int)) = false := decide_eq_false (by omega)
                  have d2 : decide (most ≤ ul.length) = false := decide_eq_false (by omega)
                  clear hok hin
                  go_wp2_with fail
                  go_quiet (first | (go_at_call 73; exact quiet_q (l00HasB_any false _ _ j _ (Ints.mono HUI.out (Below.drawN _)) HIN.out)) | (go_at_call 74; exact quiet_q (l16Possible_any false _ _ _ bays list pl pl.length j _ ((hb.mono HW0.out).mono (Below.drawN _)) ((hl.mono HW0.out).mono (Below.drawN _)) (Ints.mono HI.out (Below.drawN _)) OK.out rfl hk2 hlt ⟨(fun h => by cases h), fun h => absurd h HC.out⟩)))
                  clear c0 c1 c2 c3 c4 c5 c6 l0
                  go_wp2
                  go_roundw
                  case rel => exact ⟨j + 1, left', sp, by omega, by go_num, hleft', (fun h => by have := ht.out h; rw [hn1, try_skip HOKP.out] at this; exact this), hs.out, HP.out.drewN _⟩
                  case measure => simp [intOf]; omega
                · have d1 : decide ((most : Int) ≤ (ul.length : Int)) = true := decide_eq_true (by omega)
                  have d2 : decide (most ≤ ul.length) = true := decide_eq_true (by omega)
                  clear hok hin
                  go_wp2_with fail
                  go_quiet ((go_at_call 73; exact quiet_q (l00HasB_any false _ _ j _ (Ints.mono HUI.out (Below.drawN _)) HIN.out)))
                  clear c0 c1 c2 c3 c4 c5 c6 l0
                  go_wp2
                  go_roundw
                  case rel => exact ⟨j + 1, left', sp, by omega, by go_num, hleft', (fun h => by have := ht.out h; rw [hn1, try_skip HOKP.out] at this; exact this), hs.out, HP.out.drewN _⟩
                  case measure => simp [intOf]; omega
      · obtain rfl : j = bays.length := by omega
        clear hB hr hbw
        go_wp2
        go_ret
        cases sp
        · have E := ht.out rfl
          rw [Nat.sub_self, try_end] at E
          rw [← E]
          exact ⟨rfl, HP.out⟩
        · obtain ⟨e0, e1⟩ := hs.out rfl
          have hPp := HP.out
          rw [e0] at hPp
          rw [e1]
          exact ⟨rfl, hPp⟩

end Go.Proofs.Yteaijhmgfddjiaa
