import Derived.Test.YtenedpboehkmjaaGreatSpZ4
import Derived.Test.YtenedpboehkmjaaGreatSpZ9
import Derived.Test.YtenedpboehkmjaaGreatShelf
/- Rows of weights: contracts of ContainsFunc at them; what a valid model is. -/
set_option linter.unusedSimpArgs false
set_option linter.unnecessarySimpa false
set_option linter.unusedVariables false
set_option maxRecDepth 100000
namespace Go.Proofs.YtenedpboehkmjaaGreat
open Go.RowKit

def isWt (n : Int) : Prop := 0 ≤ n ∧ n ≤ 1000
instance (n : Int) : Decidable (isWt n) := by unfold isWt; infer_instance
def wtsB (xs : List Int) : Bool := decide (∀ x ∈ xs, isWt x)
theorem yesW {n : Int} (h : isWt n) : true = decide (isWt n) := (decide_eq_true h).symm
theorem noW {n : Int} (h : ¬ isWt n) : false = decide (isWt n) := (decide_eq_false h).symm
theorem badWt_any (b : Bool) (n : Int) (w : World) (h : b = decide (isWt n)) :
    Calls Tryz.prog 117 #[.int .i64 n] w fun e w' => e = .returned (.bool (!b)) ∧ w' = w := by
  have H := Lib.hid h
  clear h
  go_enter Tryz.func117, Tryz.ntmps117
  go_wp2_with fail
  refine (within_any b n 0 1000 _ H.out).mono ?_
  rintro e w' ⟨rfl, rfl⟩
  go_wp2
  go_ret
  exact ⟨rfl, rfl⟩
def IdxW (xs : List Int) (w : World) (e : Ending) (w' : World) : Prop := ∃ i : Int, e = .returned (.int .i64 i) ∧ (wtsB xs = true → i < 0) ∧ (wtsB xs = false → 0 ≤ i) ∧ Below w.heap.size w w'

set_option maxHeartbeats 1000000 in
theorem indexWt_any (v : Value) (xs : List Int) (w : World) (h1 : Ints w v xs) :
    Calls Tryz.prog 132 #[v, .func (.func 117) #[] #[]] w (IdxW xs w) := by
  obtain ⟨a, ca, rfl, hca, hcm, _⟩ := id h1
  have hm : xs.length ≤ maxLen := by omega
  clear hca hcm
  unfold maxLen at hm
  go_enter Tryz.func132, Tryz.ntmps132
  go_wp2
  go_loopw [8] (fun i wr => ∃ k : Nat, k ≤ xs.length ∧ i = .int .i64 k ∧ (∀ i (hi : i < xs.length), i < k → isWt xs[i]) ∧ Below w.heap.size w wr) (fun i _ => xs.length - (intOf i).toNat)
  case atStart => exact ⟨0, Nat.zero_le _, rfl, by intro i _ h; omega, Below.refl _ _⟩
  case round =>
    obtain ⟨k, hk, rfl, ht', hb⟩ := hrel
    have ht := Lib.hid ht'; clear ht'
    have HB := Lib.hid hb
    have hr := Ints.mono h1 hb
    clear hb
    by_cases hlt : k < xs.length
    · obtain ⟨b1, o1, rfl, x1⟩ := hr.cells (by simp <;> omega)
      have d1 : wr.cell? ⟨b1, o1 + k, none⟩ = some (.int .i64 xs[k]) := x1 k _ (by simp [hlt])
      clear x1 hr
      by_cases hv : isWt xs[k]
      · have H2 := Lib.hid (yesW hv)
        have HV := Lib.hid hv
        clear hv
        go_wp2_with fail
        refine (badWt_any true xs[k] _ H2.out).mono ?_
        rintro e w1 ⟨rfl, rfl⟩
        go_wp2
        go_roundw
        case rel => exact ⟨k + 1, by omega, by go_num, fun i hi hik => by
          by_cases e : i = k
          · subst e; exact HV.out
          · exact ht.out i hi (by omega), HB.out⟩
        case measure => simp [intOf]; omega
      · have H2 := Lib.hid (noW hv)
        have H := Lib.hid (show wtsB xs = false by unfold wtsB; exact decide_eq_false fun h => hv (h _ (List.getElem_mem hlt)))
        clear hv
        go_wp2_with fail
        refine (badWt_any false xs[k] _ H2.out).mono ?_
        rintro e w1 ⟨rfl, rfl⟩
        go_wp2
        go_ret
        exact ⟨_, rfl, fun h => by (rw [H.out] at h; cases h), fun _ => by omega, HB.out⟩
    · have H := Lib.hid (show wtsB xs = true by
        unfold wtsB
        refine decide_eq_true fun n hn => ?_
        obtain ⟨i, hi, rfl⟩ := List.getElem_of_mem hn
        exact ht.out i hi (by omega))
      go_wp2
      go_ret
      exact ⟨_, rfl, fun _ => by omega, fun h => by (rw [H.out] at h; cases h), HB.out⟩
theorem containsWt_any (b : Bool) (v : Value) (xs : List Int) (w : World) (h1 : Ints w v xs) (h : b = wtsB xs) :
    Calls Tryz.prog 116 #[v, .func (.func 117) #[] #[]] w fun e w' => e = .returned (.bool (!b)) ∧ Below w.heap.size w w' := by
  have H := Lib.hid h
  clear h
  go_enter Tryz.func116, Tryz.ntmps116
  go_wp2_with fail
  refine (indexWt_any v xs _ h1).mono ?_
  rintro e w1 ⟨i, rfl, h1, h2, hb1⟩
  have HB := Lib.hid hb1
  clear hb1
  cases b
  · have h3 := h2 H.out.symm
    have d : decide (0 ≤ i) = true := by simpa using h3
    clear h1 h2 h3
    have D := Lib.hid d
    go_wp2
    go_ret
    exact ⟨rfl, HB.out⟩
  · have h3 := h1 H.out.symm
    have d : decide (0 ≤ i) = false := by simpa using h3
    clear h1 h2 h3
    have D := Lib.hid d
    go_wp2
    go_ret
    exact ⟨rfl, HB.out⟩


def rowOk (n : Nat) (r : List Int) : Prop := r.length = n ∧ (∀ x ∈ r, isWt x) ∧ (∃ x ∈ r, x ≠ 0)
instance (n : Nat) (r : List Int) : Decidable (rowOk n r) := by unfold rowOk; infer_instance
def modAt (x : ModD) (k : Nat) : Prop := rowOk x.zones.length (x.weights.getD k []) ∧ (1 ≤ x.base.getD k 0 ∧ x.base.getD k 0 ≤ 1000000000)
def modOk (x : ModD) : Prop := zonesOk 32 x.zones ∧ x.weights.length = 5 ∧ x.base.length = 5 ∧ ∀ k, k < 5 → modAt x k
instance (x : ModD) (k : Nat) : Decidable (modAt x k) := by unfold modAt; infer_instance
instance (x : ModD) : Decidable (modOk x) := by unfold modOk; infer_instance
theorem max_get (zs : List Int) : ∀ k, k < zs.length → (∀ j, j ≤ k → zs.getD j 0 ≤ Lib.maxOf (zs.take (k + 1))) ∧ ∃ j, j ≤ k ∧ Lib.maxOf (zs.take (k + 1)) = zs.getD j 0 := by
  intro k
  induction k with
  | zero =>
    intro hk
    rw [Lib.maxOf_one zs]
    exact ⟨fun j hj => by rw [show j = 0 by omega]; exact Int.le_refl _, 0, Nat.le_refl _, rfl⟩
  | succ k ih =>
    intro hk
    obtain ⟨h1, j0, hj0, h2⟩ := ih (by omega)
    rw [Lib.maxOf_step zs (k + 1) (by omega) hk]
    refine ⟨fun j hj => ?_, ?_⟩
    · by_cases e : j = k + 1
      · subst e; exact Int.le_max_right _ _
      · exact Int.le_trans (h1 j (by omega)) (Int.le_max_left _ _)
    · by_cases e : Lib.maxOf (zs.take (k + 1)) ≤ zs.getD (k + 1) 0
      · exact ⟨k + 1, Nat.le_refl _, by rw [Int.max_eq_right e]⟩
      · exact ⟨j0, by omega, by rw [Int.max_eq_left (by omega), h2]⟩
theorem max_zero {r : List Int} (h : 0 < r.length) : Lib.maxOf r = 0 → ¬ ((∀ x ∈ r, isWt x) ∧ ∃ x ∈ r, x ≠ 0) := by
  intro h0 ⟨h1, x, hx, hx0⟩
  obtain ⟨m, _⟩ := max_get r (r.length - 1) (by omega)
  rw [show r.length - 1 + 1 = r.length by omega, List.take_length, h0] at m
  obtain ⟨i, hi, rfl⟩ := List.getElem_of_mem hx
  have := m i (by omega)
  rw [List.getD_eq_getElem?_getD, List.getElem?_eq_getElem hi] at this
  have h2 := h1 _ hx
  unfold isWt at h2
  simp only [Option.getD_some] at this
  omega
theorem max_pos {r : List Int} (h : 0 < r.length) (h0 : Lib.maxOf r ≠ 0) : ∃ x ∈ r, x ≠ 0 := by
  obtain ⟨_, j, hj, e⟩ := max_get r (r.length - 1) (by omega)
  rw [show r.length - 1 + 1 = r.length by omega, List.take_length] at e
  have hj' : j < r.length := by omega
  rw [List.getD_eq_getElem?_getD, List.getElem?_eq_getElem hj'] at e
  exact ⟨_, List.getElem_mem hj', by simp only [Option.getD_some] at e; rw [← e]; exact h0⟩
end Go.Proofs.YtenedpboehkmjaaGreat
/- Valid models: contract of ValidModel. -/
set_option linter.unusedSimpArgs false
set_option linter.unnecessarySimpa false
set_option linter.unusedVariables false
set_option maxRecDepth 100000
namespace Go.Proofs.YtenedpboehkmjaaGreat
open Go.RowKit

theorem mod_step {x : ModD} {k : Nat} (h : ∀ i, i < k → modAt x i) (hk : modAt x k) : ∀ i, i < k + 1 → modAt x i := fun i hi => by
  by_cases e : i = k
  · rw [e]; exact hk
  · exact h i (by omega)
theorem mod_no {x : ModD} {k : Nat} (hk : k < 5) (h : ¬ modAt x k) : ¬ modOk x := fun hm => h (hm.2.2.2 k hk)
set_option maxHeartbeats 2000000 in
theorem ValidModel_any (r : Bool) (v : Value) (x : ModD) (w : World) (h : RdModD w v x) (hr : r = decide (modOk x)) :
    Calls Tryz.prog 93 #[v] w fun e w' => e = .returned (.bool r) ∧ Below w.heap.size w w' := by
  have HR := Lib.hid hr
  clear hr
  obtain ⟨z, g, b, rfl, h1, h2, h3⟩ := h
  have H1 := Lib.hid h1; have H2 := Lib.hid h2; have H3 := Lib.hid h3
  obtain ⟨az, cz, rfl, hz1, hz2, _⟩ := id h1
  obtain ⟨ag, cg, rfl, hg1, hg2⟩ := h2.form'
  obtain ⟨ab, cb, rfl, hb1, hb2, _⟩ := id h3
  have hmz : x.zones.length ≤ maxLen := by omega
  have hmb : x.base.length ≤ maxLen := by omega
  clear h1 h2 h3 hz1 hz2 hg1 hb1 hb2
  unfold maxLen at hmz hmb hg2
  obtain ⟨r1, hr1⟩ : ∃ r1, r1 = decide (zonesOk 32 x.zones) := ⟨_, rfl⟩
  have HR1 := Lib.hid hr1
  clear hr1
  go_enter Tryz.func93, Tryz.ntmps93
  go_wp2_with fail
  obtain ⟨wA, hA⟩ : ∃ wA, wA = w.alloc (.cells #[.slice az x.zones.length cz, .slice ag x.weights.length cg, .slice ab x.base.length cb] 38) := ⟨_, rfl⟩
  rw [← hA]
  have HBA := Lib.hid (show Below w.heap.size w wA by rw [hA]; (repeat (first | with_reducible exact Below.refl _ _ | with_reducible exact hbw | (with_reducible refine Below.setCell ?_ ?_ _; rotate_left; · first | exact Nat.le_refl _ | omega | (simp; done) | (simp; omega)) | (with_reducible refine Below.alloc ?_ ?_ _; rotate_left; · first | exact Nat.le_refl _ | omega | (simp; done) | (simp; omega)) | with_reducible refine below_drewN ?_ _ | with_reducible refine Below.drew ?_)))
  have B1 : Box wA w.heap.size [.slice az x.zones.length cz, .slice ag x.weights.length cg, .slice ab x.base.length cb] := by
    rw [hA]; exact Box.alloc w _ _ _ rfl
  clear hA
  have c0 := B1.at' 0 _ rfl
  have c1 := B1.at' 1 _ rfl
  have c2 := B1.at' 2 _ rfl
  refine (areZones_any r1 _ x.zones 32 _ (Ints.mono H1.out HBA.out) HR1.out).mono ?_
  rintro e w1 ⟨rfl, rfl⟩
  cases r1
  · skip
    have HX := Lib.hid (show r = false by rw [HR.out]; exact decide_eq_false (fun h => by have h2 := HR1.out.symm; rw [decide_eq_false_iff_not] at h2; exact h2 h.1))
    go_wp2
    go_ret
    exact ⟨by rw [HX.out]; rfl, HBA.out⟩
  · by_cases g2 : x.weights.length = 5
    · have e2 : ((x.weights.length : Int) != 5) = false := by rw [g2]; rfl
      by_cases g3 : x.base.length = 5
      · have e3 : ((x.base.length : Int) != 5) = false := by rw [g3]; rfl
        have G2 := Lib.hid g2
        have G3 := Lib.hid g3
        clear g2 g3
        go_wp2_with fail
        go_loopw [3, 4, 24] (fun _ _ i wr => ∃ k : Nat, k ≤ x.weights.length ∧ i = .int .i64 (k : Int) ∧ (∀ i, i < k → modAt x i) ∧ Below w1.heap.size w1 wr) (fun _ _ i _ => x.weights.length - (intOf i).toNat)
        case atStart => exact ⟨0, Nat.zero_le _, by go_num, by intro i h; omega, Below.refl _ _⟩
        case round =>
          obtain ⟨k, hk, rfl, ht, hb⟩ := hrel
          have HT := Lib.hid ht
          have HB := Lib.hid hb
          replace c0 := cellB hb c0
          replace c1 := cellB hb c1
          replace c2 := cellB hb c2
          clear ht hb
          by_cases hlt5 : k < x.weights.length
          · have hlt : k < 5 := by have := G2.out; omega
            have hltb : k < x.base.length := by have := G3.out; omega
            obtain ⟨b3, o3, l3, q3, rfl, hB3, u0, uv⟩ := (H2.out.mono (HBA.out.trans (HB.out.mono HBA.out.size))).at hlt5
            have HZ1 := Lib.hid (show 0 < x.zones.length by have h2 := of_decide_eq_true HR1.out.symm; have := h2.1.1; omega)
            have gk : x.weights.getD k [] = x.weights[k] := by rw [List.getD_eq_getElem?_getD, List.getElem?_eq_getElem hlt5]; rfl
            obtain ⟨rk, hrk⟩ : ∃ rk, rk = x.weights[k] := ⟨_, rfl⟩
            rw [← hrk] at u0 uv gk
            obtain ⟨_, _, e5, hq1, hq2, _⟩ := id uv
            cases e5
            have hmr : rk.length ≤ maxLen := by omega
            unfold maxLen at hmr
            have GK := Lib.hid gk
            have UV := Lib.hid uv
            clear hrk gk uv hq1 hq2
            by_cases g4 : rk.length = x.zones.length
            · have e4 : ((rk.length : Int) != (x.zones.length : Int)) = false := by rw [g4]; simp
              have hpr : 0 < rk.length := by have := HZ1.out; omega
              have G4 := Lib.hid g4
              clear g4
              obtain ⟨b5, o5, rfl, c5⟩ := UV.out.cells (by simpa using hpr)
              have hcc : ∀ j, j < rk.length → wr.cell? ⟨b5, o5 + j, none⟩ = some (.int .i64 (rk.getD j 0)) := fun j hj => c5 j _ (by simp [hj])
              have HCC := Lib.hid hcc
              clear c5 hcc
              obtain ⟨mx, hmx⟩ : ∃ mx, mx = Lib.maxOf rk := ⟨_, rfl⟩
              have HMX := Lib.hid hmx
              clear hmx
              go_wp2_with fail
              refine (Tryz.slices_Max_int b5 o5 rk.length q3 rk _ hpr (Nat.le_refl _) (by omega) HCC.out).mono ?_
              rw [List.take_length, ← HMX.out]
              rintro e w2 ⟨rfl, rfl⟩
              by_cases g5 : mx = 0
              · have e5 : (mx == 0) = true := by simpa using g5
                have HX := Lib.hid (show r = false by rw [HR.out]; exact decide_eq_false (mod_no hlt (fun h => max_zero hpr (by rw [← HMX.out]; exact g5) ⟨by have := h.1.2.1; rw [GK.out] at this; exact this, by have := h.1.2.2; rw [GK.out] at this; exact this⟩)))
                go_wp2
                go_ret
                exact ⟨by rw [HX.out]; rfl, by have := HBA.out; exact this.trans ((HB.out).mono this.size)⟩
              · have e5 : (mx == 0) = false := by simpa using g5
                have HPX := Lib.hid (max_pos hpr (by rw [← HMX.out]; exact g5))
                obtain ⟨bw, hbw⟩ : ∃ bw, bw = wtsB rk := ⟨_, rfl⟩
                have HBW := Lib.hid hbw
                clear g5 hbw
                go_wp2_with fail
                refine (containsWt_any bw _ rk _ UV.out HBW.out).mono ?_
                rintro e w3 ⟨rfl, hb3⟩
                replace HB := Lib.hid (HB.out.trans (hb3.mono HB.out.size))
                replace c0 := cellB hb3 c0
                replace c1 := cellB hb3 c1
                replace c2 := cellB hb3 c2
                clear hb3
                cases bw
                · skip
                  have HX := Lib.hid (show r = false by rw [HR.out]; exact decide_eq_false (mod_no hlt (fun h => by have h2 := HBW.out; unfold wtsB at h2; have h3 := h2.symm; rw [decide_eq_false_iff_not] at h3; exact h3 (by have := h.1.2.1; rw [GK.out] at this; exact this))))
                  go_wp2
                  go_ret
                  exact ⟨by rw [HX.out]; rfl, by have := HBA.out; exact this.trans ((HB.out).mono this.size)⟩
                · have HWT := Lib.hid (show ∀ y ∈ rk, isWt y from of_decide_eq_true HBW.out.symm)
                  obtain ⟨b6, o6, rfl, c6⟩ := (Ints.mono H3.out (HBA.out.trans (HB.out.mono HBA.out.size))).cells (by simp; omega)
                  have d6 := c6 k (.int .i64 (x.base.getD k 0)) (by simp [hltb])
                  obtain ⟨y, hy⟩ : ∃ y, y = x.base.getD k 0 := ⟨_, rfl⟩
                  rw [← hy] at d6
                  have HY := Lib.hid hy
                  obtain ⟨bb, hbb⟩ : ∃ bb, bb = decide (1 ≤ y ∧ y ≤ 1000000000) := ⟨_, rfl⟩
                  have HBB := Lib.hid hbb
                  clear c6 hy hbb
                  go_wp2_with fail
                  refine (within_any bb y 1 1000000000 _ HBB.out).mono ?_
                  rintro e w4 ⟨rfl, rfl⟩
                  cases bb
                  · skip
                    have HX := Lib.hid (show r = false by rw [HR.out]; exact decide_eq_false (mod_no hlt (fun h => by have h3 := HBB.out.symm; rw [decide_eq_false_iff_not, HY.out] at h3; exact h3 h.2)))
                    go_wp2
                    go_ret
                    exact ⟨by rw [HX.out]; rfl, by have := HBA.out; exact this.trans ((HB.out).mono this.size)⟩
                  · have HM := Lib.hid (show modAt x k from ⟨by rw [GK.out]; exact ⟨G4.out, HWT.out, HPX.out⟩, by rw [← HY.out]; exact of_decide_eq_true HBB.out.symm⟩)
                    go_wp2
                    go_roundw
                    case rel => exact ⟨k + 1, by omega, by go_num, mod_step HT.out HM.out, HB.out⟩
                    case measure => simp [intOf]; omega
            · have e4 : ((rk.length : Int) != (x.zones.length : Int)) = true := by simp; omega
              have HX := Lib.hid (show r = false by rw [HR.out]; exact decide_eq_false (mod_no hlt (fun h => g4 (by rw [← GK.out]; exact h.1.1))))
              go_wp2
              go_ret
              exact ⟨by rw [HX.out]; rfl, by have := HBA.out; exact this.trans ((HB.out).mono this.size)⟩
          · have HX := Lib.hid (show r = true by rw [HR.out]; exact decide_eq_true ⟨of_decide_eq_true HR1.out.symm, G2.out, G3.out, fun i hi => HT.out i (by have := G2.out; omega)⟩)
            go_wp2
            go_ret
            exact ⟨by rw [HX.out]; rfl, HBA.out.trans (HB.out.mono HBA.out.size)⟩
      · have e3 : ((x.base.length : Int) != 5) = true := by simp; omega
        have HX := Lib.hid (show r = false by rw [HR.out]; exact decide_eq_false (fun h => g3 h.2.2.1))
        go_wp2
        go_ret
        exact ⟨by rw [HX.out]; rfl, HBA.out⟩
    · have e2 : ((x.weights.length : Int) != 5) = true := by simp; omega
      have HX := Lib.hid (show r = false by rw [HR.out]; exact decide_eq_false (fun h => g2 h.2.1))
      go_wp2
      go_ret
      exact ⟨by rw [HX.out]; rfl, HBA.out⟩
end Go.Proofs.YtenedpboehkmjaaGreat
/- Valid models: contract of l08Ok. -/
set_option linter.unusedSimpArgs false
set_option linter.unnecessarySimpa false
set_option linter.unusedVariables false
set_option maxRecDepth 100000
namespace Go.Proofs.YtenedpboehkmjaaGreat
open Go.RowKit

/-- A model lies in block q from cell o on. -/
structure ModIn (w : World) (q o : Nat) (x : ModD) (az : Option Addr) (cz : Nat) (ag : Option Addr) (cg : Nat) (ab : Option Addr) (cb : Nat) : Prop where
  lt : q < w.heap.size
  c0 : w.cell? ⟨q, o, none⟩ = some (.slice az x.zones.length cz)
  c1 : w.cell? ⟨q, o + 1, none⟩ = some (.slice ag x.weights.length cg)
  c2 : w.cell? ⟨q, o + 2, none⟩ = some (.slice ab x.base.length cb)
  z : Ints w (.slice az x.zones.length cz) x.zones
  g : RdIntss w (.slice ag x.weights.length cg) x.weights
  b : Ints w (.slice ab x.base.length cb) x.base
theorem ModIn.mono {w w' : World} {q o : Nat} {x : ModD} {az cz ag cg ab cb} (h : ModIn w q o x az cz ag cg ab cb) (hb : Below w.heap.size w w') : ModIn w' q o x az cz ag cg ab cb :=
  ⟨Nat.lt_of_lt_of_le h.lt hb.size, cellB hb h.c0, cellB hb h.c1, cellB hb h.c2, Ints.mono h.z hb, h.g.mono hb, Ints.mono h.b hb⟩
/-- What the sum of the first weights tells. -/
structure SumIs (r : List Int) (z : Nat) (s : Int) : Prop where
  lo : 0 ≤ s
  hi : s ≤ 1000 * (z : Int)
  no : s = 0 ↔ ∀ i, i < z → r.getD i 0 = 0
  wt : ∀ i, i < z → isWt (r.getD i 0)
theorem SumIs.zero (r : List Int) : SumIs r 0 0 := ⟨by omega, by omega, by simp, by intro i h; omega⟩
theorem SumIs.next {r : List Int} {z : Nat} {s : Int} (h : SumIs r z s) (hw : isWt (r.getD z 0)) : SumIs r (z + 1) (s + r.getD z 0) := by
  obtain ⟨a, b, c, d⟩ := h
  unfold isWt at hw
  refine ⟨by omega, by omega, ⟨fun e i hi => ?_, fun e => ?_⟩, fun i hi => ?_⟩
  · by_cases g : i = z
    · rw [g]; omega
    · exact c.1 (by omega) i (by omega)
  · have := e z (by omega); have := c.2 (fun i hi => e i (by omega)); omega
  · by_cases g : i = z
    · rw [g]; exact hw
    · exact d i (by omega)
theorem SumIs.row {r : List Int} {s : Int} {n : Nat} (h : SumIs r r.length s) (hn : r.length = n) : (s ≠ 0 ↔ rowOk n r) := by
  constructor
  · intro hs
    refine ⟨hn, fun x hx => ?_, ?_⟩
    · obtain ⟨i, hi, rfl⟩ := List.getElem_of_mem hx
      have := h.wt i hi
      rw [List.getD_eq_getElem?_getD, List.getElem?_eq_getElem hi] at this
      exact this
    · apply Classical.byContradiction
      intro hc
      apply hs
      rw [h.no]
      intro i hi
      apply Classical.byContradiction
      intro hne
      rw [List.getD_eq_getElem?_getD, List.getElem?_eq_getElem hi] at hne
      exact hc ⟨_, List.getElem_mem hi, hne⟩
  · rintro ⟨_, _, x, hx, hx0⟩ hs
    obtain ⟨i, hi, rfl⟩ := List.getElem_of_mem hx
    have := h.no.1 hs i hi
    rw [List.getD_eq_getElem?_getD, List.getElem?_eq_getElem hi] at this
    exact hx0 this

set_option maxHeartbeats 2000000 in
theorem l08Ok_any (r : Bool) (q o : Nat) (x : ModD) (w : World) {az cz ag cg ab cb} (h : ModIn w q o x az cz ag cg ab cb) (hr : r = decide (modOk x)) :
    Calls Tryz.prog 80 #[.pointer (some ⟨q, o, none⟩)] w fun e w' => e = .returned (.bool r) ∧ Q w w' := by
  have HR := Lib.hid hr
  have H := Lib.hid h
  obtain ⟨_, _, e1, hz1, hz2, _⟩ := id h.z
  cases e1
  obtain ⟨_, _, e1, hg1, hg2⟩ := h.g.form'
  cases e1
  obtain ⟨_, _, e1, hb1, hb2, _⟩ := id h.b
  cases e1
  have hmz : x.zones.length ≤ maxLen := by omega
  have hmb : x.base.length ≤ maxLen := by omega
  have c0 := h.c0
  have c1 := h.c1
  have c2 := h.c2
  have l0 := h.lt
  clear h hr hz1 hz2 hg1 hb1 hb2
  unfold maxLen at hmz hmb hg2
  obtain ⟨r1, hr1⟩ : ∃ r1, r1 = decide (zonesOk 32 x.zones) := ⟨_, rfl⟩
  have HR1 := Lib.hid hr1
  clear hr1
  go_enter Tryz.func80, Tryz.ntmps80
  go_wp2_with fail
  refine (l08Zones_any r1 _ x.zones _ H.out.z HR1.out).mono ?_
  rintro e w1 ⟨rfl, hq⟩
  replace c0 := (hq.cell _).trans c0
  replace c1 := (hq.cell _).trans c1
  replace c2 := (hq.cell _).trans c2
  cases r1
  · skip
    have HX := Lib.hid (show r = false by rw [HR.out]; exact decide_eq_false (fun h => by have h2 := HR1.out.symm; rw [decide_eq_false_iff_not] at h2; exact h2 h.1))
    go_wp2
    go_ret
    exact ⟨by rw [HX.out]; rfl, hq⟩
  · by_cases g2 : x.weights.length = 5
    · have e2 : ((x.weights.length : Int) != 5) = false := by rw [g2]; rfl
      by_cases g3 : x.base.length = 5
      · have e3 : ((x.base.length : Int) != 5) = false := by rw [g3]; rfl
        have G2 := Lib.hid g2
        have G3 := Lib.hid g3
        clear g2 g3
        go_wp2_with fail
        have HQ1 := Lib.hid hq
        clear hq c0 c1 c2
        go_loopw [3, 4, 5] (fun i _ _ wr => ∃ k : Nat, k ≤ 5 ∧ i = .int .i64 (k : Int) ∧ (∀ i, i < k → modAt x i) ∧ Q w wr) (fun i _ _ _ => 5 - (intOf i).toNat)
        case atStart => exact ⟨0, Nat.zero_le _, by go_num, by intro i h; omega, HQ1.out⟩
        case round =>
          obtain ⟨k, hk, rfl, ht, hq⟩ := hrel
          have HT := Lib.hid ht
          have HQ := Lib.hid hq
          have c0 := (hq.cell _).trans H.out.c0
          have c1 := (hq.cell _).trans H.out.c1
          have c2 := (hq.cell _).trans H.out.c2
          have hb := hq.below w.heap.size
          have HI := Lib.hid (H.out.mono hb)
          clear ht hq hb
          by_cases hlt : k < 5
          · have hlt5 : k < x.weights.length := by have := G2.out; omega
            have hltb : k < x.base.length := by have := G3.out; omega
            have hltI : (k : Int) < 5 := by omega
            obtain ⟨b3, o3, l3, q3, rfl, hB3, u0, uv⟩ := HI.out.g.at hlt5
            have gk : x.weights.getD k [] = x.weights[k] := by rw [List.getD_eq_getElem?_getD, List.getElem?_eq_getElem hlt5]; rfl
            obtain ⟨rk, hrk⟩ : ∃ rk, rk = x.weights[k] := ⟨_, rfl⟩
            rw [← hrk] at u0 uv gk
            obtain ⟨_, _, e5, hq1, hq2, _⟩ := id uv
            cases e5
            have hmr : rk.length ≤ maxLen := by omega
            unfold maxLen at hmr
            have GK := Lib.hid gk
            have UV := Lib.hid uv
            clear hrk gk uv hq1 hq2
            obtain ⟨b6, o6, rfl, c6⟩ := HI.out.b.cells (by simp; omega)
            have d6 := c6 k (.int .i64 (x.base.getD k 0)) (by simp [hltb])
            obtain ⟨y, hy⟩ : ∃ y, y = x.base.getD k 0 := ⟨_, rfl⟩
            rw [← hy] at d6
            have HY := Lib.hid hy
            obtain ⟨bb, hbb⟩ : ∃ bb, bb = decide (1 ≤ y ∧ y ≤ 1000000000) := ⟨_, rfl⟩
            have HBB := Lib.hid hbb
            clear c6 hy hbb
            cases bb
            · skip
              go_wp2
              go_quiet ((go_at_call 42; exact Calls.quiet_of_same (l00In_any false y 1 1000000000 _ HBB.out)))
              have HQ0 := HQ
              replace HQ := Lib.hid (HQ0.out.drewN nq)
              have HX := Lib.hid (show r = false by rw [HR.out]; exact decide_eq_false (mod_no hlt (fun h => by have h3 := HBB.out.symm; rw [decide_eq_false_iff_not, HY.out] at h3; exact h3 h.2)))
              go_wp2
              go_ret
              exact ⟨by rw [HX.out]; rfl, HQ.out⟩
            · by_cases g4 : rk.length = x.zones.length
              · have e4 : ((rk.length : Int) != (x.zones.length : Int)) = false := by rw [g4]; simp
                have G4 := Lib.hid g4
                clear g4
                go_wp2
                go_quiet ((go_at_call 42; exact Calls.quiet_of_same (l00In_any true y 1 1000000000 _ HBB.out)))
                have HQ0 := HQ
                replace HQ := Lib.hid (HQ0.out.drewN nq)
                clear c0 c1 c2 d6
                have HQ' := HQ
                obtain ⟨wB, hwB⟩ : ∃ wB, wB = wr.drewN nq := ⟨_, rfl⟩
                rw [← hwB] at HQ' ⊢
                have c0 := (HQ'.out.cell _).trans H.out.c0
                have c1 := (HQ'.out.cell _).trans H.out.c1
                have u0' : wB.cell? ⟨b3, o3 + k, none⟩ = some (.slice l3 rk.length q3) := by rw [hwB]; simpa using u0
                have UV' := Lib.hid (Ints.q UV.out (show Q wr wB by rw [hwB]; exact (Q.refl _).drewN _))
                have hz8 : x.zones.length ≤ 8 := by have h2 := of_decide_eq_true HR1.out.symm; exact h2.1.2
                clear HQ UV HI u0 hwB
                have HQ := HQ'
                go_wp2_with fail
                go_loopw [4, 5] (fun sv zv wr' => ∃ (z : Nat) (t : Int), z ≤ x.zones.length ∧ zv = .int .i64 (z : Int) ∧ sv = .int .i64 t ∧ SumIs rk z t ∧ wr' = wB) (fun _ zv _ => x.zones.length - (intOf zv).toNat)
                case atStart => exact ⟨0, 0, Nat.zero_le _, by go_num, rfl, SumIs.zero rk, rfl⟩
                case round =>
                  obtain ⟨z, t, hz, rfl, rfl, hsum, rfl⟩ := hrel
                  have t0 := hsum.lo
                  have t1 := hsum.hi
                  have HS := Lib.hid hsum
                  clear hsum
                  by_cases hzt : z < x.zones.length
                  · have hzI : (z : Int) < (x.zones.length : Int) := by omega
                    have hzr : z < rk.length := by have := G4.out; omega
                    obtain ⟨b7, o7, rfl, c7⟩ := UV'.out.cells (by simp; omega)
                    have d7 := c7 z (.int .i64 (rk.getD z 0)) (by simp [hzr])
                    obtain ⟨y, hy⟩ : ∃ y, y = rk.getD z 0 := ⟨_, rfl⟩
                    rw [← hy] at d7
                    have HY2 := Lib.hid hy
                    obtain ⟨bw, hbw⟩ : ∃ bw, bw = decide (0 ≤ y ∧ y ≤ 1000) := ⟨_, rfl⟩
                    have HBW := Lib.hid hbw
                    clear c7 hy hbw
                    go_wp2_with fail
                    refine (l00In_any bw y 0 1000 _ HBW.out).mono ?_
                    rintro e w4 ⟨rfl, rfl⟩
                    cases bw
                    · skip
                      have HX := Lib.hid (show r = false by rw [HR.out]; exact decide_eq_false (mod_no hlt (fun h => by have h3 := HBW.out.symm; rw [decide_eq_false_iff_not, HY2.out] at h3; have h4 := h.1.2.1; rw [GK.out] at h4; exact h3 (h4 _ (by rw [List.getD_eq_getElem?_getD, List.getElem?_eq_getElem hzr]; exact List.getElem_mem hzr)))))
                      go_wp2
                      go_ret
                      exact ⟨by rw [HX.out]; rfl, HQ.out⟩
                    · have hy2 := of_decide_eq_true HBW.out.symm
                      have w1' : IntKind.i64.wrap (t + y) = t + y := IntWalk.i64_in _ (by omega)
                      have HN := Lib.hid (HS.out.next (by rw [← HY2.out]; exact hy2))
                      clear hy2
                      go_wp2
                      go_roundw
                      case rel => exact ⟨z + 1, t + y, by omega, by go_num, rfl, by rw [HY2.out]; exact HN.out, trivial⟩
                      case measure => simp [intOf]; omega
                  · have hzr : z = rk.length := by have := G4.out; omega
                    have HRow := Lib.hid ((show SumIs rk rk.length t by rw [← hzr]; exact HS.out).row G4.out)
                    clear hzr
                    by_cases g7 : t = 0
                    · have e7 : (t == 0) = true := by simpa using g7
                      have HX := Lib.hid (show r = false by rw [HR.out]; exact decide_eq_false (mod_no hlt (fun h => by have := h.1; rw [GK.out] at this; exact HRow.out.2 this g7)))
                      go_wp2
                      go_ret
                      exact ⟨by rw [HX.out]; rfl, HQ.out⟩
                    · have e7 : (t == 0) = false := by simpa using g7
                      have HM := Lib.hid (show modAt x k from ⟨by rw [GK.out]; exact HRow.out.1 g7, by rw [← HY.out]; exact of_decide_eq_true HBB.out.symm⟩)
                      go_wp2
                      go_roundw
                      case rel => exact ⟨k + 1, by omega, by go_num, mod_step HT.out HM.out, HQ.out⟩
                      case measure => simp [intOf]; omega
              · have e4 : ((rk.length : Int) != (x.zones.length : Int)) = true := by simp; omega
                go_wp2
                go_quiet ((go_at_call 42; exact Calls.quiet_of_same (l00In_any true y 1 1000000000 _ HBB.out)))
                have HQ0 := HQ
                replace HQ := Lib.hid (HQ0.out.drewN nq)
                have HX := Lib.hid (show r = false by rw [HR.out]; exact decide_eq_false (mod_no hlt (fun h => g4 (by rw [← GK.out]; exact h.1.1))))
                go_wp2
                go_ret
                exact ⟨by rw [HX.out]; rfl, HQ.out⟩
          · have HX := Lib.hid (show r = true by rw [HR.out]; exact decide_eq_true ⟨of_decide_eq_true HR1.out.symm, G2.out, G3.out, fun i hi => HT.out i (by omega)⟩)
            go_wp2
            go_ret
            exact ⟨by rw [HX.out]; rfl, HQ.out⟩
      · have e3 : ((x.base.length : Int) != 5) = true := by simp; omega
        have HX := Lib.hid (show r = false by rw [HR.out]; exact decide_eq_false (fun h => g3 h.2.2.1))
        go_wp2
        go_ret
        exact ⟨by rw [HX.out]; rfl, hq⟩
    · have e2 : ((x.weights.length : Int) != 5) = true := by simp; omega
      have HX := Lib.hid (show r = false by rw [HR.out]; exact decide_eq_false (fun h => g2 h.2.1))
      go_wp2
      go_ret
      exact ⟨by rw [HX.out]; rfl, hq⟩
end Go.Proofs.YtenedpboehkmjaaGreat
