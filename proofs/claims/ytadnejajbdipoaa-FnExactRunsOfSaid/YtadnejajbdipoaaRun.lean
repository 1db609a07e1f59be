/- Contracts of isRun and l27Run: whether numbers rise, or fall, by 1 each. -/
import Derived.Test.YtadnejajbdipoaaNear
import Derived.Test.YtadnejajbdipoaaKInts
import Derived.Test.YtadnejajbdipoaaRegion
set_option linter.unusedSimpArgs false
set_option linter.unnecessarySimpa false
set_option linter.unusedVariables false
set_option maxRecDepth 100000
namespace Go.Proofs.Ytadnejajbdipoaa
open Go.RowKit

/-- The first n numbers differ by d each. -/
def Ch (d : Int) (l : List Int) (n : Nat) : Prop := ∀ j, 1 ≤ j → j < n → l.getD j 0 = l.getD (j - 1) 0 + d
theorem ch_one (d : Int) (l : List Int) : Ch d l 1 := fun j h1 h2 => by omega
theorem ch_step {d : Int} {l : List Int} {n : Nat} (h : Ch d l n) (e : l.getD n 0 = l.getD (n - 1) 0 + d) : Ch d l (n + 1) := fun j h1 h2 => by
  by_cases g : j = n
  · rw [g]; exact e
  · exact h j h1 (by omega)
theorem ch_pre {d : Int} {l : List Int} {n m : Nat} (h : Ch d l n) (hm : m ≤ n) : Ch d l m := fun j h1 h2 => h j h1 (by omega)
noncomputable instance (d : Int) (l : List Int) (n : Nat) : Decidable (Ch d l n) := Classical.propDecidable _
/-- Whether numbers are a run. -/
noncomputable def runB (l : List Int) : Bool := decide (Ch 1 l l.length ∨ Ch (-1) l l.length)
theorem run_d {l : List Int} (h : 1 < l.length) (hr : runB l = true) : (l.getD 1 0 - l.getD 0 0 = 1 ∨ l.getD 1 0 - l.getD 0 0 = -1) ∧ Ch (l.getD 1 0 - l.getD 0 0) l l.length := by
  unfold runB at hr
  rcases of_decide_eq_true hr with g | g
  · have := g 1 (by omega) h
    simp only [Nat.sub_self] at this
    have e : l.getD 1 0 - l.getD 0 0 = 1 := by omega
    rw [e]; exact ⟨.inl rfl, g⟩
  · have := g 1 (by omega) h
    simp only [Nat.sub_self] at this
    have e : l.getD 1 0 - l.getD 0 0 = -1 := by omega
    rw [e]; exact ⟨.inr rfl, g⟩
theorem run_yes {l : List Int} {d : Int} (hd : d = 1 ∨ d = -1) (h : Ch d l l.length) : runB l = true := by
  unfold runB
  rcases hd with rfl | rfl
  · exact decide_eq_true (.inl h)
  · exact decide_eq_true (.inr h)
theorem run_short {l : List Int} (h : l.length ≤ 1) : runB l = true := run_yes (.inl rfl) fun j h1 h2 => by omega
theorem run_no {l : List Int} (h : 1 < l.length) (hn : (l.getD 1 0 - l.getD 0 0 = 1 ∨ l.getD 1 0 - l.getD 0 0 = -1) → ¬ Ch (l.getD 1 0 - l.getD 0 0) l l.length) : runB l = false := by
  cases hr : runB l
  · rfl
  · obtain ⟨h1, h2⟩ := run_d h hr
    exact absurd h2 (hn h1)

theorem grown_draw1 (w : World) : w.grownBy w.drew none := ⟨rfl, rfl, rfl, Nat.le_refl _, fun _ _ _ => rfl⟩

set_option maxHeartbeats 1000000 in
theorem isRun_any (v : Value) (l : List Int) (w : World) (h : Ints w v l) (hb : ∀ x ∈ l, 0 ≤ x ∧ x ≤ 1000) :
    Calls Try.prog 52 #[v] w fun e w' => e = .returned (.bool (runB l)) ∧ Q w w' := by
  obtain ⟨a, ca, rfl, hca, hcm, _⟩ := id h
  have hm : l.length ≤ maxLen := by omega
  clear hca hcm
  unfold maxLen at hm
  have HB := Lib.hid hb; clear hb
  go_enter Try.func52, Try.ntmps52
  go_wp2_with fail
  go_loopw [3, 4] (fun i _ wr => ∃ m : Nat, (m + 1 ≤ l.length ∨ m = 0) ∧ i = .int .i64 ((m : Int) + 1) ∧ (1 ≤ m → l.getD 1 0 - l.getD 0 0 = 1 ∨ l.getD 1 0 - l.getD 0 0 = -1) ∧ Ch (l.getD 1 0 - l.getD 0 0) l (m + 1) ∧ Q w wr) (fun i _ _ => l.length + 1 - (intOf i).toNat)
  case atStart => exact ⟨0, .inr rfl, by go_num, fun h => by omega, ch_one _ _, Q.refl _⟩
  case round =>
    obtain ⟨m, hk, rfl, hd, hc, hq⟩ := hrel
    have HD := Lib.hid hd; have HC := Lib.hid hc; clear hd hc
    by_cases hlt : m + 1 < l.length
    · have h1 : 1 < l.length := by omega
      have h0 : 0 < l.length := by omega
      obtain ⟨b1, o1, rfl, c1⟩ := (h.q hq).cells (by simp; omega)
      have d0 : wr.cell? ⟨b1, o1, none⟩ = some (.int .i64 l[0]) := by have := c1 0 (.int .i64 l[0]) (by simp [h0]); simpa using this
      have d1 : wr.cell? ⟨b1, o1 + 1, none⟩ = some (.int .i64 l[1]) := c1 1 _ (by simp [h1])
      have d2 : wr.cell? ⟨b1, o1 + m, none⟩ = some (.int .i64 l[m]) := c1 m _ (by simp <;> omega)
      have d3 : wr.cell? ⟨b1, o1 + (m + 1), none⟩ = some (.int .i64 l[m + 1]) := c1 (m + 1) _ (by simp [hlt])
      obtain ⟨x0, y0⟩ := HB.out l[0] (List.getElem_mem h0)
      obtain ⟨x1, y1⟩ := HB.out l[1] (List.getElem_mem h1)
      obtain ⟨x2, y2⟩ := HB.out l[m] (List.getElem_mem (by omega))
      obtain ⟨x3, y3⟩ := HB.out l[m + 1] (List.getElem_mem hlt)
      have G0 := Lib.hid (show l.getD 0 0 = l[0] by simp [h0])
      have G1 := Lib.hid (show l.getD 1 0 = l[1] by simp [h1])
      have G2 := Lib.hid (show l.getD m 0 = l[m] by simp [show m < l.length by omega])
      have G3 := Lib.hid (show l.getD (m + 1) 0 = l[m + 1] by simp [hlt])
      generalize l[0] = p0 at *
      generalize l[1] = p1 at *
      generalize l[m] = p2 at *
      generalize l[m + 1] = p3 at *
      have e1 : IntKind.i64.wrap (p1 - p0) = p1 - p0 := IntWalk.i64_in _ (by omega)
      have e2 : IntKind.i64.wrap (p3 - p2) = p3 - p2 := IntWalk.i64_in _ (by omega)
      have e3 : ((m : Int) + 1).toNat = m + 1 := by omega
      have e4 : (m : Int) + 1 < (l.length : Int) := by omega
      have e5 : (0 : Int) ≤ (m : Int) + 1 := by omega
      have e6 : (m : Int) < (l.length : Int) := by omega
      have e7 : (1 : Int) < (l.length : Int) := by omega
      have e8 : (0 : Int) < (l.length : Int) := by omega
      obtain ⟨ab, hab⟩ : ∃ ab : Int, ab = if p1 - p0 < 0 then -(p1 - p0) else p1 - p0 := ⟨_, rfl⟩
      have HAB := Lib.hid hab
      have hB1 : b1 < wr.heap.size := World.block_lt_of_cell? wr _ d0
      have n0 : ∀ n o x, (ext (wr.drewN n) none x).cell? ⟨b1, o, none⟩ = wr.cell? ⟨b1, o, none⟩ := fun n o x => cell?_ext (w := wr.drewN n) hB1 (by simp)
      have e9 : IntKind.i64.wrap (m : Int) = (m : Int) := IntWalk.i64_in _ (by omega)
      clear c1 hab
      by_cases g1 : p1 - p0 = 1 ∨ p1 - p0 = -1
      · have f1 : (ab != 1) = false := by rw [HAB.out]; rcases g1 with g1 | g1 <;> rw [g1] <;> simp
        have g1' := Lib.hid g1
        by_cases g2 : p3 - p2 = p1 - p0
        · have f2 : (p3 - p2 != p1 - p0) = false := by simpa using g2
          have HX := Lib.hid (show Ch (l.getD 1 0 - l.getD 0 0) l (m + 1 + 1) from ch_step HC.out (by rw [show m + 1 - 1 = m from rfl, G3.out, G2.out, G1.out, G0.out]; omega))
          clear g2
          go_wp2
          go_quiet (fail)
          go_wp2_with fail
          refine wp_region_ord [(0, true), (1, false), (2, true), (3, true), (4, true), (5, true), (6, true), (7, true), (8, true), (9, true), (10, true), (11, true), (12, true), (13, true), (14, true), (15, true), (16, true)] (none) (by kernel_rfl) (by kernel_rfl) ?_
          (repeat (with_reducible refine wpOrd_soft (fun K hK => ?_); simp only [List.getElem?_toArray, List.getElem?_cons_zero, List.getElem?_cons_succ]; first | (go_simp; refine hK _ ?_) | (simp only [undef]; go_simp; refine hK _ ?_); clear hK K))
          (with_reducible refine wpOrd_hard ?_; simp only [List.getElem?_toArray, List.getElem?_cons_zero, List.getElem?_cons_succ])
          go_wp2_with fail
          refine (abs_any ab (p1 - p0) _ HAB.out (by omega) (by omega)).mono ?_
          rintro e w2 ⟨rfl, rfl⟩
          go_wp2_with fail
          refine ⟨grown_draw1 _, ?_⟩
          (repeat (with_reducible refine wpOrd_soft (fun K hK => ?_); simp only [List.getElem?_toArray, List.getElem?_cons_zero, List.getElem?_cons_succ]; first | (go_simp; refine hK _ ?_) | (simp only [undef]; go_simp; refine hK _ ?_); clear hK K))
          (with_reducible refine wpOrd_nil ?_); refine NoPanic.normal ?_
          go_wp2
          go_roundw
          case rel => exact ⟨m + 1, .inl (by omega), by go_num, fun _ => by rw [G1.out, G0.out]; exact g1'.out, HX.out, (by first | exact hq.drewN _ | exact (hq.drewN _).drew)⟩
          case measure => simp [intOf] <;> omega
        · have f2 : (p3 - p2 != p1 - p0) = true := by simpa using g2
          have HX := Lib.hid (run_no h1 fun _ hc => by
            have := hc (m + 1) (by omega) hlt
            rw [show m + 1 - 1 = m from rfl, G3.out, G2.out, G1.out, G0.out] at this
            omega)
          clear g2
          go_wp2
          go_quiet (fail)
          go_wp2_with fail
          refine wp_region_ord [(0, true), (1, false), (2, true), (3, true), (4, true), (5, true), (6, true), (7, true), (8, true), (9, true), (10, true), (11, true), (12, true), (13, true), (14, true), (15, true), (16, true)] (none) (by kernel_rfl) (by kernel_rfl) ?_
          (repeat (with_reducible refine wpOrd_soft (fun K hK => ?_); simp only [List.getElem?_toArray, List.getElem?_cons_zero, List.getElem?_cons_succ]; first | (go_simp; refine hK _ ?_) | (simp only [undef]; go_simp; refine hK _ ?_); clear hK K))
          (with_reducible refine wpOrd_hard ?_; simp only [List.getElem?_toArray, List.getElem?_cons_zero, List.getElem?_cons_succ])
          go_wp2_with fail
          refine (abs_any ab (p1 - p0) _ HAB.out (by omega) (by omega)).mono ?_
          rintro e w2 ⟨rfl, rfl⟩
          go_wp2_with fail
          refine ⟨grown_draw1 _, ?_⟩
          (repeat (with_reducible refine wpOrd_soft (fun K hK => ?_); simp only [List.getElem?_toArray, List.getElem?_cons_zero, List.getElem?_cons_succ]; first | (go_simp; refine hK _ ?_) | (simp only [undef]; go_simp; refine hK _ ?_); clear hK K))
          (with_reducible refine wpOrd_nil ?_); refine NoPanic.normal ?_
          go_wp2
          go_ret
          exact ⟨ret_bool HX.out.symm, (by first | exact hq.drewN _ | exact (hq.drewN _).drew)⟩
      · have f1 : (ab != 1) = true := by rw [HAB.out]; simp only [bne_iff_ne, ne_eq]; split <;> omega
        have HX := Lib.hid (run_no h1 fun hr => by rw [G1.out, G0.out] at hr; exact absurd hr g1)
        clear g1
        go_wp2
        go_quiet (fail)
        go_wp2_with fail
        refine wp_region_ord [(0, true), (1, false), (2, true), (3, true), (4, true), (5, true), (6, true), (7, true), (8, true), (9, true), (10, true), (11, true), (12, true), (13, true), (14, true), (15, true), (16, true)] (none) (by kernel_rfl) (by kernel_rfl) ?_
        (repeat (with_reducible refine wpOrd_soft (fun K hK => ?_); simp only [List.getElem?_toArray, List.getElem?_cons_zero, List.getElem?_cons_succ]; first | (go_simp; refine hK _ ?_) | (simp only [undef]; go_simp; refine hK _ ?_); clear hK K))
        (with_reducible refine wpOrd_hard ?_; simp only [List.getElem?_toArray, List.getElem?_cons_zero, List.getElem?_cons_succ])
        go_wp2_with fail
        refine (abs_any ab (p1 - p0) _ HAB.out (by omega) (by omega)).mono ?_
        rintro e w2 ⟨rfl, rfl⟩
        go_wp2_with fail
        refine ⟨grown_draw1 _, ?_⟩
        (repeat (with_reducible refine wpOrd_soft (fun K hK => ?_); simp only [List.getElem?_toArray, List.getElem?_cons_zero, List.getElem?_cons_succ]; first | (go_simp; refine hK _ ?_) | (simp only [undef]; go_simp; refine hK _ ?_); clear hK K))
        (with_reducible refine wpOrd_nil ?_); refine NoPanic.normal ?_
        go_wp2
        go_ret
        exact ⟨ret_bool HX.out.symm, (by first | exact hq.drewN _ | exact (hq.drewN _).drew)⟩
    · have HX := Lib.hid (show runB l = true by
        by_cases g : l.length ≤ 1
        · exact run_short g
        · have e : l.length = m + 1 := by omega
          refine run_yes (HD.out (by omega)) ?_
          rw [e]; exact HC.out)
      go_wp2
      go_ret
      exact ⟨ret_bool HX.out.symm, hq⟩

set_option maxHeartbeats 1000000 in
theorem l27Run_any (v : Value) (l : List Int) (w : World) (h : Ints w v l) (hb : ∀ x ∈ l, 0 ≤ x ∧ x ≤ 1000) :
    Calls Try.prog 51 #[v] w fun e w' => e = .returned (.bool (runB l)) ∧ Q w w' := by
  obtain ⟨a, ca, rfl, hca, hcm, _⟩ := id h
  have hm : l.length ≤ maxLen := by omega
  clear hca hcm
  unfold maxLen at hm
  have HB := Lib.hid hb; clear hb
  go_enter Try.func51, Try.ntmps51
  go_wp2_with fail
  go_loopw [3, 4, 5] (fun u d i wr => ∃ (m : Nat) (bu bd : Bool), (m + 1 ≤ l.length ∨ m = 0) ∧ i = .int .i64 ((m : Int) + 1) ∧ u = .bool bu ∧ d = .bool bd ∧ (bu = true ↔ Ch 1 l (m + 1)) ∧ (bd = true ↔ Ch (-1) l (m + 1)) ∧ Q w wr) (fun _ _ i _ => l.length + 1 - (intOf i).toNat)
  case atStart => exact ⟨0, true, true, .inr rfl, by go_num, rfl, rfl, ⟨fun _ => ch_one _ _, fun _ => rfl⟩, ⟨fun _ => ch_one _ _, fun _ => rfl⟩, Q.refl _⟩
  case round =>
    obtain ⟨m, bu, bd, hk, rfl, rfl, rfl, hu, hd, hq⟩ := hrel
    have HU := Lib.hid hu; have HD := Lib.hid hd; clear hu hd
    by_cases hlt : m + 1 < l.length
    · obtain ⟨b1, o1, rfl, c1⟩ := (h.q hq).cells (by simp; omega)
      have d2 : wr.cell? ⟨b1, o1 + m, none⟩ = some (.int .i64 l[m]) := c1 m _ (by simp <;> omega)
      have d3 : wr.cell? ⟨b1, o1 + (m + 1), none⟩ = some (.int .i64 l[m + 1]) := c1 (m + 1) _ (by simp [hlt])
      obtain ⟨x2, y2⟩ := HB.out l[m] (List.getElem_mem (by omega))
      obtain ⟨x3, y3⟩ := HB.out l[m + 1] (List.getElem_mem hlt)
      have G2 := Lib.hid (show l.getD m 0 = l[m] by simp [show m < l.length by omega])
      have G3 := Lib.hid (show l.getD (m + 1) 0 = l[m + 1] by simp [hlt])
      generalize l[m] = p2 at *
      generalize l[m + 1] = p3 at *
      have e1 : IntKind.i64.wrap (p2 + 1) = p2 + 1 := IntWalk.i64_in _ (by omega)
      have e2 : IntKind.i64.wrap (p2 - 1) = p2 - 1 := IntWalk.i64_in _ (by omega)
      have e3 : ((m : Int) + 1).toNat = m + 1 := by omega
      have e4 : (m : Int) + 1 < (l.length : Int) := by omega
      have e5 : (0 : Int) ≤ (m : Int) + 1 := by omega
      have e6 : (m : Int) < (l.length : Int) := by omega
      have SU := Lib.hid (fun (b : Bool) (hb : b = decide (p3 = p2 + 1)) => show (bu && b) = true ↔ Ch 1 l (m + 1 + 1) from by
        rw [hb]
        constructor
        · intro e
          simp only [Bool.and_eq_true, decide_eq_true_eq] at e
          exact ch_step (HU.out.1 e.1) (by rw [show m + 1 - 1 = m from rfl, G3.out, G2.out]; exact e.2)
        · intro e
          have := e (m + 1) (by omega) (by omega)
          rw [show m + 1 - 1 = m from rfl, G3.out, G2.out] at this
          rw [HU.out.2 (ch_pre e (by omega)), this]; simp)
      have SD := Lib.hid (fun (b : Bool) (hb : b = decide (p3 = p2 - 1)) => show (bd && b) = true ↔ Ch (-1) l (m + 1 + 1) from by
        rw [hb]
        constructor
        · intro e
          simp only [Bool.and_eq_true, decide_eq_true_eq] at e
          exact ch_step (HD.out.1 e.1) (by rw [show m + 1 - 1 = m from rfl, G3.out, G2.out]; omega)
        · intro e
          have := e (m + 1) (by omega) (by omega)
          rw [show m + 1 - 1 = m from rfl, G3.out, G2.out] at this
          rw [HD.out.2 (ch_pre e (by omega))]; simp; omega)
      clear c1
      by_cases g1 : p3 = p2 + 1
      · have f1 : (p3 == p2 + 1) = true := by simpa using g1
        have f2 : (p3 == p2 - 1) = false := by simp; omega
        have K1 := Lib.hid (SU.out true (by simp [g1])); have K2 := Lib.hid (SD.out false (by simp; omega))
        clear g1
        cases bu <;> cases bd
        all_goals
          go_wp2
          go_quiet (fail)
          go_wp2
          go_quiet (fail)
          go_wp2
          go_roundw
          case rel => exact ⟨m + 1, _, _, .inl (by omega), by go_num, rfl, rfl, K1.out, K2.out, (by first | exact hq.drewN _ | exact (hq.drewN _).drew)⟩
          case measure => simp [intOf] <;> omega
      · have f1 : (p3 == p2 + 1) = false := by simpa using g1
        by_cases g2 : p3 = p2 - 1
        · have f2 : (p3 == p2 - 1) = true := by simpa using g2
          have K1 := Lib.hid (SU.out false (by simp; omega)); have K2 := Lib.hid (SD.out true (by simp; omega))
          clear g1 g2
          cases bu <;> cases bd
          all_goals
            go_wp2
            go_quiet (fail)
            go_wp2
            go_quiet (fail)
            go_wp2
            go_roundw
            case rel => exact ⟨m + 1, _, _, .inl (by omega), by go_num, rfl, rfl, K1.out, K2.out, (by first | exact hq.drewN _ | exact (hq.drewN _).drew)⟩
            case measure => simp [intOf] <;> omega
        · have f2 : (p3 == p2 - 1) = false := by simpa using g2
          have K1 := Lib.hid (SU.out false (by simp; omega)); have K2 := Lib.hid (SD.out false (by simp; omega))
          clear g1 g2
          cases bu <;> cases bd
          all_goals
            go_wp2
            go_quiet (fail)
            go_wp2
            go_quiet (fail)
            go_wp2
            go_roundw
            case rel => exact ⟨m + 1, _, _, .inl (by omega), by go_num, rfl, rfl, K1.out, K2.out, (by first | exact hq.drewN _ | exact (hq.drewN _).drew)⟩
            case measure => simp [intOf] <;> omega
    · have HX := Lib.hid (show runB l = (bu || bd) by
        have hl : Ch 1 l (m + 1) ↔ Ch 1 l l.length := ⟨fun h => ch_pre h (by omega), fun h j h1 h2 => h j h1 (by omega)⟩
        have hl2 : Ch (-1) l (m + 1) ↔ Ch (-1) l l.length := ⟨fun h => ch_pre h (by omega), fun h j h1 h2 => h j h1 (by omega)⟩
        have h3 : (Ch 1 l l.length ∨ Ch (-1) l l.length) ↔ (bu = true ∨ bd = true) := by rw [← hl, ← hl2, ← HU.out, ← HD.out]
        rw [Bool.eq_iff_iff]
        unfold runB
        rw [decide_eq_true_iff, h3]
        cases bu <;> cases bd <;> simp)
      cases bu <;> cases bd
      all_goals
        go_wp2
        go_ret
        exact ⟨ret_bool (by rw [HX.out]; rfl), hq⟩

end Go.Proofs.Ytadnejajbdipoaa
