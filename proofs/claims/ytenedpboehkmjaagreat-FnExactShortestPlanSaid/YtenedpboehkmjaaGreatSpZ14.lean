import Derived.Test.YtenedpboehkmjaaGreatSpZ7
import Derived.Test.YtenedpboehkmjaaGreatSpZ10
import Derived.Test.YtenedpboehkmjaaGreatSpZ13
import Derived.Test.YtenedpboehkmjaaGreatSpZ8
/- Codes for models, profiles and goals: contracts of l09Zones, l08Ask, l10Ask. -/
set_option linter.unusedSimpArgs false
set_option linter.unnecessarySimpa false
set_option linter.unusedVariables false
set_option maxRecDepth 100000
namespace Go.Proofs.YtenedpboehkmjaaGreat
open Go.RowKit

def mCode (x : ModD) (p : PrfD) : Int := if modOk x ∧ prfOk p then (if zonesOk p.rings.length x.zones then 0 else 2) else 1
def askC (x : ModD) (p : PrfD) (g : GoalD) : Int := if goalOk g then mCode x p else 1

set_option maxHeartbeats 1000000 in
theorem l09Zones_any (r : Bool) (q o : Nat) (x : PrfD) (v : Value) (zs : List Int) (w : World) {a : Option Addr} {c : Nat} (h : PrfIn w q o x a c) (hn : x.name.size ≤ maxLen) (h1 : Ints w v zs) (hr : r = decide (prfOk x ∧ zonesOk x.rings.length zs)) :
    Calls Tryz.prog 82 #[.pointer (some ⟨q, o, none⟩), v] w fun e w' => e = .returned (.bool r) ∧ Q w w' := by
  have HR := Lib.hid hr
  have H := Lib.hid h
  have H1 := Lib.hid h1
  obtain ⟨_, _, e1, hz1, hz2, _⟩ := id h.r
  cases e1
  have hm : x.rings.length ≤ maxLen := by omega
  obtain ⟨az, cz, rfl, hz3, hz4, _⟩ := id h1
  have hm2 : zs.length ≤ maxLen := by omega
  have c0 := h.c0
  have c1 := h.c1
  have l0 := h.lt
  clear h hr hz1 hz2 hz3 hz4 h1
  unfold maxLen at hm hm2
  obtain ⟨r1, hr1⟩ : ∃ r1, r1 = decide (prfOk x) := ⟨_, rfl⟩
  have HR1 := Lib.hid hr1
  clear hr1
  go_enter Tryz.func82, Tryz.ntmps82
  go_wp2_with fail
  refine (l05Ok_any r1 q o x _ H.out hn HR1.out).mono ?_
  rintro e w1 ⟨rfl, hq⟩
  replace c1 := (hq.cell _).trans c1
  have F1 := Lib.hid (Ints.mono H1.out (hq.below w.heap.size))
  cases r1
  · skip
    have HX := Lib.hid (show r = false by rw [HR.out]; exact decide_eq_false (fun h => by unfold zonesOk at h; have h2 := HR1.out.symm; rw [decide_eq_false_iff_not] at h2; exact h2 h.1))
    go_wp2
    go_ret
    exact ⟨by rw [HX.out]; rfl, hq⟩
  by_cases g1 : 1 ≤ zs.length
  · have e1 : decide ((1 : Int) ≤ (zs.length : Int)) = true := decide_eq_true (by omega)
    have e1' : decide (1 ≤ zs.length) = true := decide_eq_true g1
    by_cases g2 : zs.length ≤ 8
    · have e2 : decide ((zs.length : Int) ≤ 8) = true := decide_eq_true (by omega)
      have e2' : decide (zs.length ≤ 8) = true := decide_eq_true g2
      obtain ⟨b1, o1, rfl, k1⟩ := F1.out.cells (by simp; omega)
      have d1 := k1 0 (.int .i64 (zs.getD 0 0)) (by cases zs with | nil => simp at g1 | cons x xs => rfl)
      obtain ⟨y, hy⟩ : ∃ y, y = zs.getD 0 0 := ⟨_, rfl⟩
      rw [← hy, Nat.add_zero] at d1
      have HY := Lib.hid hy
      have hp : 0 < zs.length := by omega
      have hp' : (0 : Int) < (zs.length : Int) := by omega
      have w1' : IntKind.i64.wrap ((x.rings.length : Int) - 1) = (x.rings.length : Int) - 1 := IntWalk.i64_in _ (by omega)
      clear hy k1
      by_cases g3 : y = 0
      · have e3 : (y == 0) = true := by simpa using g3
        have HG := Lib.hid (show (1 ≤ zs.length ∧ zs.length ≤ 8) ∧ zs.getD 0 0 = 0 from ⟨⟨g1, g2⟩, by rw [← HY.out]; exact g3⟩)
        clear g1 g2 g3
        have HQ := Lib.hid hq
        go_wp2_with fail
        refine (l00Rises_any _ 0 ((x.rings.length : Int) - 1) zs _ F1.out).mono ?_
        rintro e w2 ⟨rfl, hq2⟩
        have HX := Lib.hid (show decide (Rises 0 ((x.rings.length : Int) - 1) zs) = r by
          rw [HR.out]; unfold zonesOk
          by_cases g : Rises 0 ((x.rings.length : Int) - 1) zs
          · rw [decide_eq_true g]; exact (decide_eq_true ⟨of_decide_eq_true HR1.out.symm, HG.out.1, HG.out.2, g⟩).symm
          · rw [decide_eq_false g]; exact (decide_eq_false (fun h => g h.2.2.2)).symm)
        rw [HX.out]
        go_wp2
        go_ret
        exact ⟨rfl, HQ.out.trans hq2⟩
      · have e3 : (y == 0) = false := by simpa using g3
        have HX := Lib.hid (show r = false by rw [HR.out]; exact decide_eq_false (fun h => by unfold zonesOk at h; exact g3 (by rw [HY.out]; exact h.2.2.1)))
        go_wp2
        go_ret
        exact ⟨by rw [HX.out]; rfl, hq⟩
    · have e2 : decide ((zs.length : Int) ≤ 8) = false := decide_eq_false (by omega)
      have e2' : decide (zs.length ≤ 8) = false := decide_eq_false g2
      have HX := Lib.hid (show r = false by rw [HR.out]; exact decide_eq_false (fun h => by unfold zonesOk at h; exact g2 h.2.1.2))
      go_wp2
      go_ret
      exact ⟨by rw [HX.out]; rfl, hq⟩
  · have e1 : decide ((1 : Int) ≤ (zs.length : Int)) = false := decide_eq_false (by omega)
    have e1' : decide (1 ≤ zs.length) = false := decide_eq_false g1
    have HX := Lib.hid (show r = false by rw [HR.out]; exact decide_eq_false (fun h => by unfold zonesOk at h; exact g1 h.2.1.1))
    go_wp2
    go_ret
    exact ⟨by rw [HX.out]; rfl, hq⟩

set_option maxHeartbeats 1000000 in
theorem l08Ask_any (n : Int) (q o : Nat) (x : ModD) (q2 o2 : Nat) (p : PrfD) (w : World) {az cz ag cg ab cb} {a : Option Addr} {c : Nat} (hm : ModIn w q o x az cz ag cg ab cb) (hp : PrfIn w q2 o2 p a c) (hn : p.name.size ≤ maxLen) (hr : n = mCode x p) :
    Calls Tryz.prog 59 #[.pointer (some ⟨q, o, none⟩), .pointer (some ⟨q2, o2, none⟩)] w fun e w' => e = .returned (.int .i64 n) ∧ Q w w' := by
  have HR := Lib.hid hr
  have HM := Lib.hid hm
  have HP := Lib.hid hp
  have c0 := hm.c0
  have l0 := hm.lt
  clear hr hm hp
  obtain ⟨b1, hb1⟩ : ∃ b, b = decide (modOk x) := ⟨_, rfl⟩
  obtain ⟨b2, hb2⟩ : ∃ b, b = decide (prfOk p) := ⟨_, rfl⟩
  obtain ⟨b3, hb3⟩ : ∃ b, b = decide (prfOk p ∧ zonesOk p.rings.length x.zones) := ⟨_, rfl⟩
  have H1 := Lib.hid hb1; have H2 := Lib.hid hb2; have H3 := Lib.hid hb3
  clear hb1 hb2 hb3
  go_enter Tryz.func59, Tryz.ntmps59
  go_wp2_with fail
  refine (l08Ok_any b1 q o x _ HM.out H1.out).mono ?_
  rintro e w1 ⟨rfl, hq1⟩
  have HQ1 := Lib.hid hq1
  replace c0 := (hq1.cell _).trans c0
  clear hq1
  cases b1
  · have HX := Lib.hid (show n = 1 by rw [HR.out]; exact if_neg (fun h => by have h2 := H1.out.symm; rw [decide_eq_false_iff_not] at h2; exact h2 h.1))
    go_wp2
    go_ret
    exact ⟨by rw [HX.out]; rfl, HQ1.out⟩
  · go_wp2_with fail
    refine (l05Ok_any b2 q2 o2 p _ (HP.out.mono (HQ1.out.below _)) hn H2.out).mono ?_
    rintro e w2 ⟨rfl, hq2⟩
    have HQ2 := Lib.hid (HQ1.out.trans hq2)
    replace c0 := (hq2.cell _).trans c0
    clear hq2
    cases b2
    · have HX := Lib.hid (show n = 1 by rw [HR.out]; exact if_neg (fun h => by have h2 := H2.out.symm; rw [decide_eq_false_iff_not] at h2; exact h2 h.2))
      go_wp2
      go_ret
      exact ⟨by rw [HX.out]; rfl, HQ2.out⟩
    · have HE := Lib.hid (show mCode x p = if zonesOk p.rings.length x.zones then 0 else 2 from if_pos ⟨of_decide_eq_true H1.out.symm, of_decide_eq_true H2.out.symm⟩)
      go_wp2_with fail
      refine (l09Zones_any b3 q2 o2 p _ x.zones _ (HP.out.mono (HQ2.out.below _)) hn (Ints.mono HM.out.z (HQ2.out.below _)) H3.out).mono ?_
      rintro e w3 ⟨rfl, hq3⟩
      have HQ3 := Lib.hid (HQ2.out.trans hq3)
      clear hq3 c0
      cases b3
      · have HX := Lib.hid (show n = 2 by rw [HR.out, HE.out]; exact if_neg (fun h => by have h2 := H3.out.symm; rw [decide_eq_false_iff_not] at h2; exact h2 ⟨of_decide_eq_true H2.out.symm, h⟩))
        go_wp2
        go_ret
        exact ⟨by rw [HX.out]; rfl, HQ3.out⟩
      · have HX := Lib.hid (show n = 0 by rw [HR.out, HE.out]; exact if_pos (of_decide_eq_true H3.out.symm).2)
        go_wp2
        go_ret
        exact ⟨by rw [HX.out]; rfl, HQ3.out⟩
set_option maxHeartbeats 1000000 in
theorem l10Ask_any (n : Int) (q o : Nat) (x : ModD) (q2 o2 : Nat) (p : PrfD) (q3 o3 : Nat) (g : GoalD) (w : World) {az cz ag cg ab cb} {a : Option Addr} {c : Nat} (hm : ModIn w q o x az cz ag cg ab cb) (hp : PrfIn w q2 o2 p a c) (hg : GoalIn w q3 o3 g) (hn : p.name.size ≤ maxLen) (hr : n = askC x p g) :
    Calls Tryz.prog 41 #[.pointer (some ⟨q, o, none⟩), .pointer (some ⟨q2, o2, none⟩), .pointer (some ⟨q3, o3, none⟩)] w fun e w' => e = .returned (.int .i64 n) ∧ Below w.heap.size w w' := by
  have HR := Lib.hid hr
  have HM := Lib.hid hm
  have HP := Lib.hid hp
  have HG := Lib.hid hg
  clear hr hm hp hg
  obtain ⟨b1, hb1⟩ : ∃ b, b = decide (goalOk g) := ⟨_, rfl⟩
  have H1 := Lib.hid hb1
  clear hb1
  go_enter Tryz.func41, Tryz.ntmps41
  go_wp2_with fail
  refine (l10Goal_any b1 q3 o3 g _ HG.out H1.out).mono ?_
  rintro e w1 ⟨rfl, hb1⟩
  have HB1 := Lib.hid hb1
  clear hb1
  cases b1
  · have HX := Lib.hid (show n = 1 by rw [HR.out]; exact if_neg (fun h => by have h2 := H1.out.symm; rw [decide_eq_false_iff_not] at h2; exact h2 h))
    go_wp2
    go_ret
    exact ⟨by rw [HX.out]; rfl, HB1.out⟩
  · have HX := Lib.hid (show n = mCode x p by rw [HR.out]; exact if_pos (of_decide_eq_true H1.out.symm))
    go_wp2_with fail
    refine (l08Ask_any n q o x q2 o2 p _ (HM.out.mono HB1.out) (HP.out.mono HB1.out) hn HX.out).mono ?_
    rintro e w2 ⟨rfl, hq2⟩
    have HB2 := Lib.hid (HB1.out.trans ((hq2.below _).mono HB1.out.size))
    clear hq2
    go_wp2
    go_ret
    exact ⟨rfl, HB2.out⟩
end Go.Proofs.YtenedpboehkmjaaGreat
/- Codes of the program: ValidZones, modelled, aimed, searchable. -/
set_option linter.unusedSimpArgs false
set_option linter.unnecessarySimpa false
set_option linter.unusedVariables false
set_option maxRecDepth 100000
namespace Go.Proofs.YtenedpboehkmjaaGreat
open Go.RowKit

theorem sizeR_any (a : Option Addr) (n c : Nat) (w : World) : Calls Tryz.prog 123 #[.slice a n c] w fun e w' => e = .returned (.int .i64 n) ∧ w' = w := by
  go_enter Tryz.func123, Tryz.ntmps123
  go_wp2
  go_ret
  exact ⟨rfl, rfl⟩
theorem isBudget_any (b : Bool) (n : Int) (w : World) (h : b = decide (1 ≤ n ∧ n ≤ 20000)) : Calls Tryz.prog 49 #[.int .i64 n] w fun e w' => e = .returned (.bool b) ∧ w' = w := by
  have H := Lib.hid h; clear h
  go_enter Tryz.func49, Tryz.ntmps49
  go_wp2_with fail
  refine (within_any b n 1 20000 _ H.out).mono ?_
  rintro e w' ⟨rfl, rfl⟩
  go_wp2
  go_ret
  exact ⟨rfl, rfl⟩
set_option maxHeartbeats 1000000 in
theorem ValidZones_any (r : Bool) (v : Value) (x : PrfD) (vz : Value) (zs : List Int) (w : World) (h : RdPrf w v x) (hn : x.name.size ≤ maxLen) (h1 : Ints w vz zs) (hr : r = decide (prfOk x ∧ zonesOk x.rings.length zs)) :
    Calls Tryz.prog 95 #[v, vz] w fun e w' => e = .returned (.bool r) ∧ Below w.heap.size w w' := by
  have H := Lib.hid h
  obtain ⟨lv, rfl, hrr⟩ := h
  obtain ⟨a, c, rfl, _⟩ := id hrr
  obtain ⟨az, cz, rfl, _⟩ := id h1
  have HR := Lib.hid hr
  have H1 := Lib.hid h1
  obtain ⟨r1, hr1⟩ : ∃ r1, r1 = decide (prfOk x) := ⟨_, rfl⟩
  have HR1 := Lib.hid hr1
  obtain ⟨r2, hr2⟩ : ∃ r2, r2 = decide (zonesOk x.rings.length zs) := ⟨_, rfl⟩
  have HR2 := Lib.hid hr2
  clear hr hrr h1 hr1 hr2
  go_enter Tryz.func95, Tryz.ntmps95
  go_wp2_with fail
  obtain ⟨wA, hA⟩ : ∃ wA, wA = w.alloc (.cells #[.string x.name, .slice a x.rings.length c] 42) := ⟨_, rfl⟩
  rw [← hA]
  have hbA : Below w.heap.size w wA := by rw [hA]; (repeat (first | with_reducible exact Below.refl _ _ | with_reducible exact hbw | (with_reducible refine Below.setCell ?_ ?_ _; rotate_left; · first | exact Nat.le_refl _ | omega | (simp; done) | (simp; omega)) | (with_reducible refine Below.alloc ?_ ?_ _; rotate_left; · first | exact Nat.le_refl _ | omega | (simp; done) | (simp; omega)) | with_reducible refine below_drewN ?_ _ | with_reducible refine Below.drew ?_))
  have B1 : Box wA w.heap.size [.string x.name, .slice a x.rings.length c] := by
    rw [hA]; exact Box.alloc w _ _ _ rfl
  clear hA
  refine (ValidProfile_any r1 _ x _ (H.out.mono hbA) hn HR1.out).mono ?_
  rintro e w1 ⟨rfl, hb1⟩
  replace B1 := B1.mono hb1
  have HB := Lib.hid (hbA.trans (hb1.mono hbA.size))
  clear hb1 hbA
  have c1 := B1.at' 1 _ rfl
  cases r1
  · have HX := Lib.hid (show r = false by rw [HR.out]; exact decide_eq_false (fun h => by have h2 := HR1.out.symm; rw [decide_eq_false_iff_not] at h2; exact h2 h.1))
    go_wp2
    go_ret
    exact ⟨by rw [HX.out]; rfl, HB.out⟩
  · go_wp2_with fail
    refine (sizeR_any a x.rings.length c _).mono ?_
    rintro e w2 ⟨rfl, rfl⟩
    go_wp2_with fail
    refine (areZones_any r2 _ zs _ _ (Ints.mono H1.out HB.out) HR2.out).mono ?_
    rintro e w3 ⟨rfl, rfl⟩
    cases r2
    · have HX := Lib.hid (show r = false by rw [HR.out]; exact decide_eq_false (fun h => by have h2 := HR2.out.symm; rw [decide_eq_false_iff_not] at h2; exact h2 h.2))
      go_wp2
      go_ret
      exact ⟨by rw [HX.out]; rfl, HB.out⟩
    · have HX := Lib.hid (show r = true by rw [HR.out]; exact decide_eq_true ⟨of_decide_eq_true HR1.out.symm, of_decide_eq_true HR2.out.symm⟩)
      go_wp2
      go_ret
      exact ⟨by rw [HX.out]; rfl, HB.out⟩
set_option maxHeartbeats 1000000 in
theorem modelled_any (n : Int) (vm : Value) (x : ModD) (vp : Value) (p : PrfD) (w : World) (hm : RdModD w vm x) (hp : RdPrf w vp p) (hn : p.name.size ≤ maxLen) (hr : n = mCode x p) :
    Calls Tryz.prog 70 #[vm, vp] w fun e w' => e = .returned (.int .i64 n) ∧ Below w.heap.size w w' := by
  have HR := Lib.hid hr
  have HM := Lib.hid hm
  have HP := Lib.hid hp
  obtain ⟨z, g, b, rfl, h1, h2, h3⟩ := hm
  have HZ := Lib.hid h1
  obtain ⟨az, cz, rfl, _⟩ := id h1
  obtain ⟨ag, cg, rfl⟩ := h2.form
  obtain ⟨ab, cb, rfl, _⟩ := id h3
  obtain ⟨lv, rfl, hrr⟩ := hp
  obtain ⟨a, c, rfl, _⟩ := id hrr
  clear hr h1 h2 h3 hrr
  obtain ⟨b1, hb1⟩ : ∃ b, b = decide (modOk x) := ⟨_, rfl⟩
  obtain ⟨b2, hb2⟩ : ∃ b, b = decide (prfOk p) := ⟨_, rfl⟩
  obtain ⟨b3, hb3⟩ : ∃ b, b = decide (prfOk p ∧ zonesOk p.rings.length x.zones) := ⟨_, rfl⟩
  have H1 := Lib.hid hb1; have H2 := Lib.hid hb2; have H3 := Lib.hid hb3
  clear hb1 hb2 hb3
  go_enter Tryz.func70, Tryz.ntmps70
  go_wp2_with fail
  obtain ⟨wA, hA⟩ : ∃ wA, wA = (w.alloc (.cells #[.slice az x.zones.length cz, .slice ag x.weights.length cg, .slice ab x.base.length cb] 38)).alloc (.cells #[.string p.name, .slice a p.rings.length c] 42) := ⟨_, rfl⟩
  rw [← hA]
  have hbA : Below w.heap.size w wA := by rw [hA]; (repeat (first | with_reducible exact Below.refl _ _ | with_reducible exact hbw | (with_reducible refine Below.setCell ?_ ?_ _; rotate_left; · first | exact Nat.le_refl _ | omega | (simp; done) | (simp; omega)) | (with_reducible refine Below.alloc ?_ ?_ _; rotate_left; · first | exact Nat.le_refl _ | omega | (simp; done) | (simp; omega)) | with_reducible refine below_drewN ?_ _ | with_reducible refine Below.drew ?_))
  have B1 : Box wA w.heap.size [.slice az x.zones.length cz, .slice ag x.weights.length cg, .slice ab x.base.length cb] := by
    rw [hA]; exact (Box.alloc w _ _ _ rfl).mono (belowA _ _)
  have B2 : Box wA (w.heap.size + 1) [.string p.name, .slice a p.rings.length c] := by
    rw [hA]; exact Box.alloc _ _ _ _ (by simp)
  clear hA
  refine (ValidModel_any b1 _ x _ (HM.out.mono hbA) H1.out).mono ?_
  rintro e w1 ⟨rfl, hb1⟩
  replace B1 := B1.mono hb1
  replace B2 := B2.mono hb1
  have HB := Lib.hid (hbA.trans (hb1.mono hbA.size))
  clear hb1 hbA
  have c0 := B1.at' 0 _ rfl
  have d0 := B2.at' 0 _ rfl
  have d1 := B2.at' 1 _ rfl
  cases b1
  · have HX := Lib.hid (show n = 1 by rw [HR.out]; exact if_neg (fun h => by have h2 := H1.out.symm; rw [decide_eq_false_iff_not] at h2; exact h2 h.1))
    go_wp2
    go_ret
    exact ⟨by rw [HX.out]; rfl, HB.out⟩
  · go_wp2_with fail
    refine (ValidProfile_any b2 _ p _ (HP.out.mono HB.out) hn H2.out).mono ?_
    rintro e w2 ⟨rfl, hb2⟩
    replace B1 := B1.mono hb2
    replace B2 := B2.mono hb2
    replace HB := Lib.hid (HB.out.trans (hb2.mono HB.out.size))
    clear hb2 c0 d0 d1
    have c0 := B1.at' 0 _ rfl
    have d0 := B2.at' 0 _ rfl
    have d1 := B2.at' 1 _ rfl
    cases b2
    · have HX := Lib.hid (show n = 1 by rw [HR.out]; exact if_neg (fun h => by have h2 := H2.out.symm; rw [decide_eq_false_iff_not] at h2; exact h2 h.2))
      go_wp2
      go_ret
      exact ⟨by rw [HX.out]; rfl, HB.out⟩
    · have HE := Lib.hid (show mCode x p = if zonesOk p.rings.length x.zones then 0 else 2 from if_pos ⟨of_decide_eq_true H1.out.symm, of_decide_eq_true H2.out.symm⟩)
      go_wp2_with fail
      refine (ValidZones_any b3 _ p _ x.zones _ (HP.out.mono HB.out) hn (Ints.mono HZ.out HB.out) H3.out).mono ?_
      rintro e w3 ⟨rfl, hb3⟩
      replace HB := Lib.hid (HB.out.trans (hb3.mono HB.out.size))
      clear hb3 c0 d0 d1
      cases b3
      · have HX := Lib.hid (show n = 2 by rw [HR.out, HE.out]; exact if_neg (fun h => by have h2 := H3.out.symm; rw [decide_eq_false_iff_not] at h2; exact h2 ⟨of_decide_eq_true H2.out.symm, h⟩))
        go_wp2
        go_ret
        exact ⟨by rw [HX.out]; rfl, HB.out⟩
      · have HX := Lib.hid (show n = 0 by rw [HR.out, HE.out]; exact if_pos (of_decide_eq_true H3.out.symm).2)
        go_wp2
        go_ret
        exact ⟨by rw [HX.out]; rfl, HB.out⟩

set_option maxHeartbeats 1000000 in
theorem aimed_any (n : Int) (vm : Value) (x : ModD) (vp : Value) (p : PrfD) (g : GoalD) (w : World) (hm : RdModD w vm x) (hp : RdPrf w vp p) (hn : p.name.size ≤ maxLen) (hr : n = askC x p g) :
    Calls Tryz.prog 48 #[vm, vp, g.val] w fun e w' => e = .returned (.int .i64 n) ∧ Below w.heap.size w w' := by
  have HM := Lib.hid hm
  have HP := Lib.hid hp
  obtain ⟨z, gg, b, rfl, h1, h2, h3⟩ := hm
  obtain ⟨az, cz, rfl, _⟩ := id h1
  obtain ⟨ag, cg, rfl⟩ := h2.form
  obtain ⟨ab, cb, rfl, _⟩ := id h3
  obtain ⟨lv, rfl, hrr⟩ := hp
  obtain ⟨a, c, rfl, _⟩ := id hrr
  have HR := Lib.hid hr
  clear hr h1 h2 h3 hrr
  obtain ⟨b1, hb1⟩ : ∃ b, b = decide (goalOk g) := ⟨_, rfl⟩
  have H1 := Lib.hid hb1
  clear hb1
  go_enter Tryz.func48, Tryz.ntmps48
  unfold GoalD.val
  go_wp2_with fail
  obtain ⟨wA, hA⟩ : ∃ wA, wA = ((w.alloc (.cells #[.slice az x.zones.length cz, .slice ag x.weights.length cg, .slice ab x.base.length cb] 38)).alloc (.cells #[.string p.name, .slice a p.rings.length c] 42)).alloc (.cells #[.int .i64 g.t.a, .int .i64 g.t.b, .int .i64 g.t.c, .int .i64 g.t.d, .int .i64 g.t.e, .int .i64 g.tol, .int .i64 g.most] 46) := ⟨_, rfl⟩
  rw [← hA]
  have hbA : Below w.heap.size w wA := by rw [hA]; (repeat (first | with_reducible exact Below.refl _ _ | with_reducible exact hbw | (with_reducible refine Below.setCell ?_ ?_ _; rotate_left; · first | exact Nat.le_refl _ | omega | (simp; done) | (simp; omega)) | (with_reducible refine Below.alloc ?_ ?_ _; rotate_left; · first | exact Nat.le_refl _ | omega | (simp; done) | (simp; omega)) | with_reducible refine below_drewN ?_ _ | with_reducible refine Below.drew ?_))
  have B1 : Box wA w.heap.size [.slice az x.zones.length cz, .slice ag x.weights.length cg, .slice ab x.base.length cb] := by
    rw [hA]; exact ((Box.alloc w _ _ _ rfl).mono (belowA _ _)).mono (belowA _ _)
  have B2 : Box wA (w.heap.size + 1) [.string p.name, .slice a p.rings.length c] := by
    rw [hA]; exact (Box.alloc _ _ _ _ (by simp)).mono (belowA _ _)
  clear hA
  refine (ValidGoal_any b1 g _ H1.out).mono ?_
  rintro e w1 ⟨rfl, hb1⟩
  replace B1 := B1.mono hb1
  replace B2 := B2.mono hb1
  have HB := Lib.hid (hbA.trans (hb1.mono hbA.size))
  clear hb1 hbA
  have c0 := B1.at' 0 _ rfl
  have c1 := B1.at' 1 _ rfl
  have c2 := B1.at' 2 _ rfl
  have d0 := B2.at' 0 _ rfl
  have d1 := B2.at' 1 _ rfl
  cases b1
  · have HX := Lib.hid (show n = 1 by rw [HR.out]; exact if_neg (fun h => by have h2 := H1.out.symm; rw [decide_eq_false_iff_not] at h2; exact h2 h))
    go_wp2
    go_ret
    exact ⟨by rw [HX.out]; rfl, HB.out⟩
  · have HX := Lib.hid (show n = mCode x p by rw [HR.out]; exact if_pos (of_decide_eq_true H1.out.symm))
    go_wp2_with fail
    refine (modelled_any n _ x _ p _ (HM.out.mono HB.out) (HP.out.mono HB.out) hn HX.out).mono ?_
    rintro e w2 ⟨rfl, hb2⟩
    replace HB := Lib.hid (HB.out.trans (hb2.mono HB.out.size))
    clear hb2 c0 c1 c2 d0 d1
    go_wp2
    go_ret
    exact ⟨rfl, HB.out⟩
/-- The code of a search. -/
def seaC (x : ModD) (p : PrfD) (g : GoalD) (n : Int) : Int := if askC x p g = 0 then (if 1 ≤ n ∧ n ≤ 20000 then 0 else 2) else askC x p g
set_option maxHeartbeats 1000000 in
theorem searchable_any (o : Int) (vm : Value) (x : ModD) (vp : Value) (p : PrfD) (g : GoalD) (n : Int) (w : World) (hm : RdModD w vm x) (hp : RdPrf w vp p) (hn : p.name.size ≤ maxLen) (hr : o = seaC x p g n) :
    Calls Tryz.prog 28 #[vm, vp, g.val, .int .i64 n] w fun e w' => e = .returned (.int .i64 o) ∧ Below w.heap.size w w' := by
  have HM := Lib.hid hm
  have HP := Lib.hid hp
  obtain ⟨z, gg, b, rfl, h1, h2, h3⟩ := hm
  obtain ⟨az, cz, rfl, _⟩ := id h1
  obtain ⟨ag, cg, rfl⟩ := h2.form
  obtain ⟨ab, cb, rfl, _⟩ := id h3
  obtain ⟨lv, rfl, hrr⟩ := hp
  obtain ⟨a, c, rfl, _⟩ := id hrr
  have HR := Lib.hid hr
  clear hr h1 h2 h3 hrr
  obtain ⟨k, hk⟩ : ∃ k, k = askC x p g := ⟨_, rfl⟩
  have HK := Lib.hid hk
  obtain ⟨b1, hb1⟩ : ∃ b, b = decide (1 ≤ n ∧ n ≤ 20000) := ⟨_, rfl⟩
  have H1 := Lib.hid hb1
  clear hb1 hk
  go_enter Tryz.func28, Tryz.ntmps28
  unfold GoalD.val
  go_wp2_with fail
  obtain ⟨wA, hA⟩ : ∃ wA, wA = ((w.alloc (.cells #[.slice az x.zones.length cz, .slice ag x.weights.length cg, .slice ab x.base.length cb] 38)).alloc (.cells #[.string p.name, .slice a p.rings.length c] 42)).alloc (.cells #[.int .i64 g.t.a, .int .i64 g.t.b, .int .i64 g.t.c, .int .i64 g.t.d, .int .i64 g.t.e, .int .i64 g.tol, .int .i64 g.most] 46) := ⟨_, rfl⟩
  rw [← hA]
  have hbA : Below w.heap.size w wA := by rw [hA]; (repeat (first | with_reducible exact Below.refl _ _ | with_reducible exact hbw | (with_reducible refine Below.setCell ?_ ?_ _; rotate_left; · first | exact Nat.le_refl _ | omega | (simp; done) | (simp; omega)) | (with_reducible refine Below.alloc ?_ ?_ _; rotate_left; · first | exact Nat.le_refl _ | omega | (simp; done) | (simp; omega)) | with_reducible refine below_drewN ?_ _ | with_reducible refine Below.drew ?_))
  have B1 : Box wA w.heap.size [.slice az x.zones.length cz, .slice ag x.weights.length cg, .slice ab x.base.length cb] := by
    rw [hA]; exact ((Box.alloc w _ _ _ rfl).mono (belowA _ _)).mono (belowA _ _)
  have B2 : Box wA (w.heap.size + 1) [.string p.name, .slice a p.rings.length c] := by
    rw [hA]; exact (Box.alloc _ _ _ _ (by simp)).mono (belowA _ _)
  clear hA
  have HB0 := Lib.hid hbA
  refine (aimed_any k _ x _ p g _ (HM.out.mono hbA) (HP.out.mono hbA) hn HK.out).mono ?_
  rintro e w1 ⟨rfl, hb1⟩
  have HB := Lib.hid (hbA.trans (hb1.mono hbA.size))
  clear hb1 hbA B1 B2
  by_cases g1 : k = 0
  · have e1 : (k == 0) = true := by simpa using g1
    have HE := Lib.hid (show seaC x p g n = if 1 ≤ n ∧ n ≤ 20000 then 0 else 2 by unfold seaC; rw [← HK.out, if_pos g1])
    have G1 := Lib.hid g1
    clear g1
    go_wp2_with fail
    refine (isBudget_any b1 n _ H1.out).mono ?_
    rintro e w2 ⟨rfl, rfl⟩
    cases b1
    · have HX := Lib.hid (show o = 2 by rw [HR.out, HE.out]; exact if_neg (fun h => by have h2 := H1.out.symm; rw [decide_eq_false_iff_not] at h2; exact h2 h))
      go_wp2
      go_ret
      exact ⟨by rw [HX.out]; rfl, HB.out⟩
    · have HX := Lib.hid (show o = k by rw [HR.out, HE.out, G1.out]; exact if_pos (of_decide_eq_true H1.out.symm))
      go_wp2
      go_ret
      exact ⟨by rw [HX.out]; rfl, HB.out⟩
  · have e1 : (k == 0) = false := by simpa using g1
    have HX := Lib.hid (show o = k by rw [HR.out]; unfold seaC; rw [← HK.out, if_neg g1])
    clear g1
    go_wp2
    go_ret
    exact ⟨by rw [HX.out]; rfl, HB.out⟩
end Go.Proofs.YtenedpboehkmjaaGreat
