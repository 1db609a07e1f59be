/- Rows that are valid together: contracts of l27Rows and validRows; slices.ContainsFunc at rows. -/
import Derived.Test.YtadnejajbdipoaaComp
import Derived.Test.YtadnejajbdipoaaIntss
set_option linter.unusedSimpArgs false
set_option linter.unnecessarySimpa false
set_option linter.unusedVariables false
set_option maxRecDepth 100000
namespace Go.Proofs.Ytadnejajbdipoaa
open Go.RowKit

/-- A row that does not go with some others. -/
noncomputable def badRow (xs : List (List Int)) (x : List Int) : Bool := !decide (RowOk x ∧ x.length = (xs.headD []).length)
noncomputable def rowsB (xs : List (List Int)) : Bool := decide (xs.length ≤ 121) && !xs.any (badRow xs)
theorem bad_no {xs : List (List Int)} {x : List Int} (h : RowOk x) (hl : x.length = (xs.headD []).length) : badRow xs x = false := by unfold badRow; rw [decide_eq_true ⟨h, hl⟩]; rfl
theorem bad_row {xs : List (List Int)} {x : List Int} (h : ¬ RowOk x) : badRow xs x = true := by unfold badRow; rw [decide_eq_false (fun e => h e.1)]; rfl
theorem bad_len {xs : List (List Int)} {x : List Int} (h : ¬ x.length = (xs.headD []).length) : badRow xs x = true := by unfold badRow; rw [decide_eq_false (fun e => h e.2)]; rfl
theorem headD_zero {xs : List (List Int)} (h : 0 < xs.length) : xs.headD [] = xs[0] := by
  cases xs with
  | nil => simp at h
  | cons x xs => rfl
theorem any_step {α : Type} {P : α → Bool} {xs : List α} {k : Nat} (hk : k < xs.length) (h : (xs.take k).any P = false) (hp : P xs[k] = false) : (xs.take (k + 1)).any P = false := by
  rw [List.take_succ_eq_append_getElem hk, List.any_append, h]; simp [hp]
theorem any_hit {α : Type} {P : α → Bool} {xs : List α} {k : Nat} (hk : k < xs.length) (hp : P xs[k] = true) : xs.any P = true := List.any_eq_true.2 ⟨_, List.getElem_mem hk, hp⟩
theorem rows_no {xs : List (List Int)} {k : Nat} (hk : k < xs.length) (h : badRow xs xs[k] = true) : rowsB xs = false := by unfold rowsB; rw [any_hit hk h]; simp
theorem rows_end {xs : List (List Int)} (h : xs.any (badRow xs) = false) : rowsB xs = decide (xs.length ≤ 121) := by unfold rowsB; rw [h]; simp
theorem rows_ok {xs : List (List Int)} (h : rowsB xs = true) : xs.length ≤ 121 ∧ ∀ x ∈ xs, RowOk x := by
  unfold rowsB at h
  simp only [Bool.and_eq_true, decide_eq_true_eq, Bool.not_eq_true', List.any_eq_false] at h
  refine ⟨h.1, fun x hx => ?_⟩
  have := h.2 x hx
  unfold badRow at this
  simp only [Bool.not_eq_true', decide_eq_false_iff_not, Classical.not_not] at this
  exact this.1

set_option maxHeartbeats 1000000 in
theorem l27Rows_any (v : Value) (xs : List (List Int)) (w : World) (h : RdIntss w v xs) :
    Calls Try.prog 44 #[v] w fun e w' => e = .returned (.bool (rowsB xs)) ∧ Below w.heap.size w w' := by
  obtain ⟨a, ca, rfl, _, hm⟩ := h.form'
  unfold maxLen at hm
  go_enter Try.func44, Try.ntmps44
  go_wp2_with fail
  go_loopw [3] (fun i wr => ∃ k : Nat, k ≤ xs.length ∧ i = .int .i64 k ∧ (xs.take k).any (badRow xs) = false ∧ Below w.heap.size w wr) (fun i _ => xs.length - (intOf i).toNat)
  case atStart => exact ⟨0, Nat.zero_le _, rfl, rfl, Below.refl _ _⟩
  case round =>
    obtain ⟨k, hk, rfl, ht, hb⟩ := hrel
    have HT := Lib.hid ht; clear ht
    by_cases hlt : k < xs.length
    · have hp : 0 < xs.length := by omega
      obtain ⟨b1, o1, lv, c1, rfl, hB, u0, uv⟩ := (h.mono hb).at hlt
      obtain ⟨b2, o2, lv2, c2, e2, hB2, z0, zv⟩ := (h.mono hb).at hp
      cases e2
      rw [Nat.add_zero] at z0
      have H0 := Lib.hid (headD_zero hp)
      have n0 : ∀ o x, (ext wr.drew none x).cell? ⟨b1, o, none⟩ = wr.cell? ⟨b1, o, none⟩ := fun o x => cell?_ext (w := wr.drew) hB (by simp)
      by_cases hr : RowOk xs[k]
      · have G := Lib.hid (rowB_yes hr)
        by_cases hl : xs[k].length = xs[0].length
        · have d1 : ((xs[k].length : Int) != (xs[0].length : Int)) = false := by rw [hl]; simp
          have HS := Lib.hid (any_step hlt HT.out (bad_no hr (by rw [H0.out]; exact hl)))
          clear hl hr
          go_wp2_with fail
          refine wp_region_ord [(0, true), (1, true), (2, true), (3, true), (4, false), (5, true), (6, true), (7, true), (8, true), (9, true), (10, true), (11, true), (12, true), (13, true), (14, true), (15, true), (16, true), (17, true)] (none) (by kernel_rfl) (by kernel_rfl) ?_
          (repeat (with_reducible refine wpOrd_soft (fun K hK => ?_); simp only [List.getElem?_toArray, List.getElem?_cons_zero, List.getElem?_cons_succ]; first | (go_simp; refine hK _ ?_) | (simp only [undef]; go_simp; refine hK _ ?_); clear hK K))
          (with_reducible refine wpOrd_hard ?_; simp only [List.getElem?_toArray, List.getElem?_cons_zero, List.getElem?_cons_succ])
          go_wp2_with fail
          refine (l27Row_any _ xs[k] _ (uv.mono (by (repeat (first | with_reducible exact Below.refl _ _ | with_reducible exact hbw | (with_reducible refine Below.setCell ?_ ?_ _; rotate_left; · first | exact Nat.le_refl _ | omega | (simp; done) | (simp; omega)) | (with_reducible refine Below.alloc ?_ ?_ _; rotate_left; · first | exact Nat.le_refl _ | omega | (simp; done) | (simp; omega)) | with_reducible refine below_drewN ?_ _ | with_reducible refine Below.drew ?_))))).mono ?_
          rw [G.out]
          rintro e w2 ⟨rfl, hq2⟩
          have hb3 := undrew (hq2.below wr.heap.size)
          clear hq2
          go_wp2_with fail
          refine ⟨grown_of_below hb3, ?_⟩
          (repeat (with_reducible refine wpOrd_soft (fun K hK => ?_); simp only [List.getElem?_toArray, List.getElem?_cons_zero, List.getElem?_cons_succ]; first | (go_simp; refine hK _ ?_) | (simp only [undef]; go_simp; refine hK _ ?_); clear hK K))
          (with_reducible refine wpOrd_nil ?_); refine NoPanic.normal ?_
          go_wp2
          go_roundw
          case rel => exact ⟨k + 1, by omega, by go_num, HS.out, hb.trans (hb3.mono hb.size)⟩
          case measure => simp [intOf] <;> omega
        · have d1 : ((xs[k].length : Int) != (xs[0].length : Int)) = true := by simp; omega
          have HS := Lib.hid (rows_no hlt (bad_len (by rw [H0.out]; exact hl)))
          clear hl hr
          go_wp2_with fail
          refine wp_region_ord [(0, true), (1, true), (2, true), (3, true), (4, false), (5, true), (6, true), (7, true), (8, true), (9, true), (10, true), (11, true), (12, true), (13, true), (14, true), (15, true), (16, true), (17, true)] (none) (by kernel_rfl) (by kernel_rfl) ?_
          (repeat (with_reducible refine wpOrd_soft (fun K hK => ?_); simp only [List.getElem?_toArray, List.getElem?_cons_zero, List.getElem?_cons_succ]; first | (go_simp; refine hK _ ?_) | (simp only [undef]; go_simp; refine hK _ ?_); clear hK K))
          (with_reducible refine wpOrd_hard ?_; simp only [List.getElem?_toArray, List.getElem?_cons_zero, List.getElem?_cons_succ])
          go_wp2_with fail
          refine (l27Row_any _ xs[k] _ (uv.mono (by (repeat (first | with_reducible exact Below.refl _ _ | with_reducible exact hbw | (with_reducible refine Below.setCell ?_ ?_ _; rotate_left; · first | exact Nat.le_refl _ | omega | (simp; done) | (simp; omega)) | (with_reducible refine Below.alloc ?_ ?_ _; rotate_left; · first | exact Nat.le_refl _ | omega | (simp; done) | (simp; omega)) | with_reducible refine below_drewN ?_ _ | with_reducible refine Below.drew ?_))))).mono ?_
          rw [G.out]
          rintro e w2 ⟨rfl, hq2⟩
          have hb3 := undrew (hq2.below wr.heap.size)
          clear hq2
          go_wp2_with fail
          refine ⟨grown_of_below hb3, ?_⟩
          (repeat (with_reducible refine wpOrd_soft (fun K hK => ?_); simp only [List.getElem?_toArray, List.getElem?_cons_zero, List.getElem?_cons_succ]; first | (go_simp; refine hK _ ?_) | (simp only [undef]; go_simp; refine hK _ ?_); clear hK K))
          (with_reducible refine wpOrd_nil ?_); refine NoPanic.normal ?_
          go_wp2
          go_ret
          exact ⟨ret_bool HS.out.symm, hb.trans (hb3.mono hb.size)⟩
      · have G := Lib.hid (rowB_no hr)
        have HS := Lib.hid (rows_no hlt (bad_row (xs := xs) hr))
        clear hr
        go_wp2_with fail
        refine wp_region_ord [(0, true), (1, true), (2, true), (3, true), (4, false), (5, true), (6, true), (7, true), (8, true), (9, true), (10, true), (11, true), (12, true), (13, true), (14, true), (15, true), (16, true), (17, true)] (none) (by kernel_rfl) (by kernel_rfl) ?_
        (repeat (with_reducible refine wpOrd_soft (fun K hK => ?_); simp only [List.getElem?_toArray, List.getElem?_cons_zero, List.getElem?_cons_succ]; first | (go_simp; refine hK _ ?_) | (simp only [undef]; go_simp; refine hK _ ?_); clear hK K))
        (with_reducible refine wpOrd_hard ?_; simp only [List.getElem?_toArray, List.getElem?_cons_zero, List.getElem?_cons_succ])
        go_wp2_with fail
        refine (l27Row_any _ xs[k] _ (uv.mono (by (repeat (first | with_reducible exact Below.refl _ _ | with_reducible exact hbw | (with_reducible refine Below.setCell ?_ ?_ _; rotate_left; · first | exact Nat.le_refl _ | omega | (simp; done) | (simp; omega)) | (with_reducible refine Below.alloc ?_ ?_ _; rotate_left; · first | exact Nat.le_refl _ | omega | (simp; done) | (simp; omega)) | with_reducible refine below_drewN ?_ _ | with_reducible refine Below.drew ?_))))).mono ?_
        rw [G.out]
        rintro e w2 ⟨rfl, hq2⟩
        have hb3 := undrew (hq2.below wr.heap.size)
        clear hq2
        go_wp2_with fail
        refine ⟨grown_of_below hb3, ?_⟩
        (repeat (with_reducible refine wpOrd_soft (fun K hK => ?_); simp only [List.getElem?_toArray, List.getElem?_cons_zero, List.getElem?_cons_succ]; first | (go_simp; refine hK _ ?_) | (simp only [undef]; go_simp; refine hK _ ?_); clear hK K))
        (with_reducible refine wpOrd_nil ?_); refine NoPanic.normal ?_
        go_wp2
        go_ret
        exact ⟨ret_bool HS.out.symm, hb.trans (hb3.mono hb.size)⟩
    · have HX := Lib.hid (show rowsB xs = decide (xs.length ≤ 121) from rows_end (by have := HT.out; rwa [List.take_of_length_le (by omega)] at this))
      by_cases g : xs.length ≤ 121
      · have d1 : decide ((xs.length : Int) ≤ 121) = true := by simp; omega
        have HY := Lib.hid (show rowsB xs = true by rw [HX.out]; simpa using g)
        clear g
        go_wp2
        go_ret
        exact ⟨ret_bool HY.out.symm, hb⟩
      · have d1 : decide ((xs.length : Int) ≤ 121) = false := by simp; omega
        have HY := Lib.hid (show rowsB xs = false by rw [HX.out]; simpa using g)
        clear g
        go_wp2
        go_ret
        exact ⟨ret_bool HY.out.symm, hb⟩

/-- r is the first index with a property, or -1. -/
def IdxL (P : List Int → Bool) (xs : List (List Int)) (r : Int) : Prop :=
  (r = -1 ∧ xs.any P = false) ∨ ∃ (k : Nat) (hk : k < xs.length), r = (k : Int) ∧ P xs[k] = true
theorem IdxL.any {P : List Int → Bool} {xs : List (List Int)} {r : Int} (h : IdxL P xs r) : decide (0 ≤ r) = xs.any P := by
  rcases h with ⟨rfl, h⟩ | ⟨k, hk, rfl, h1⟩
  · rw [h]; rfl
  · rw [any_hit hk h1]; simp

set_option maxHeartbeats 1000000 in
theorem idxL1_any (N : Nat) (p : Value) (P : List Int → Bool) (v : Value) (xs : List (List Int)) (w : World) (h : RdIntss w v xs)
    (hN : ∀ args w, Sem.run Try.prog (callFunc N args) w = .ok (.enter N args) w)
    (hF : ∀ k (hk : k < xs.length) (lv : Option Addr) (ca : Nat) (w1 : World), Below w.heap.size w w1 → Ints w1 (.slice lv xs[k].length ca) xs[k] → Calls Try.prog N #[.slice lv xs[k].length ca, p] w1 fun e w2 => e = .returned (.bool (P xs[k])) ∧ Below w1.heap.size w1 w2) :
    Calls Try.prog 73 #[v, .func (.func N) #[] #[p]] w fun e w' => ∃ r : Int, e = .returned (.int .i64 r) ∧ IdxL P xs r ∧ Below w.heap.size w w' := by
  obtain ⟨a, ca, rfl, _, hm⟩ := h.form'
  unfold maxLen at hm
  have HF := Lib.hid hF; clear hF
  go_enter Try.func73, Try.ntmps73
  go_wp2_with fail
  go_loopw [8, 5] (fun i _ wr => ∃ k : Nat, k ≤ xs.length ∧ i = .int .i64 (k : Int) ∧ (xs.take k).any P = false ∧ Below w.heap.size w wr) (fun i _ _ => xs.length - (intOf i).toNat)
  case atStart => exact ⟨0, Nat.zero_le _, by go_num, rfl, Below.refl _ _⟩
  case round =>
    obtain ⟨k, hk, rfl, ht, hb⟩ := hrel
    have HT := Lib.hid ht; clear ht
    by_cases hlt : k < xs.length
    · obtain ⟨b1, o1, lv, c1, rfl, hB1, u0, uv⟩ := (h.mono hb).at hlt
      have hz := hb.size
      by_cases g : P xs[k] = true
      · have G := Lib.hid g; clear g
        go_wp2_with fail
        refine (HF.out k hlt lv c1 _ hb uv).mono ?_
        rw [G.out]
        rintro e w1 ⟨rfl, hb1⟩
        go_wp2
        go_ret
        exact ⟨k, rfl, .inr ⟨k, hlt, rfl, G.out⟩, hb.trans (hb1.mono hz)⟩
      · have G := Lib.hid (show P xs[k] = false by simpa using g); clear g
        go_wp2_with fail
        refine (HF.out k hlt lv c1 _ hb uv).mono ?_
        rw [G.out]
        rintro e w1 ⟨rfl, hb1⟩
        go_wp2
        go_roundw
        case rel => exact ⟨k + 1, by omega, by go_num, any_step hlt HT.out G.out, hb.trans (hb1.mono hz)⟩
        case measure => simp [intOf] <;> omega
    · have HX := Lib.hid (show xs.any P = false by have := HT.out; rwa [List.take_of_length_le (by omega)] at this)
      go_wp2
      go_ret
      exact ⟨-1, rfl, .inl ⟨rfl, HX.out⟩, hb⟩

set_option maxHeartbeats 400000 in
theorem anyL1_any (N : Nat) (p : Value) (P : List Int → Bool) (v : Value) (xs : List (List Int)) (w : World) (h : RdIntss w v xs)
    (hN : ∀ args w, Sem.run Try.prog (callFunc N args) w = .ok (.enter N args) w)
    (hF : ∀ k (hk : k < xs.length) (lv : Option Addr) (ca : Nat) (w1 : World), Below w.heap.size w w1 → Ints w1 (.slice lv xs[k].length ca) xs[k] → Calls Try.prog N #[.slice lv xs[k].length ca, p] w1 fun e w2 => e = .returned (.bool (P xs[k])) ∧ Below w1.heap.size w1 w2) :
    Calls Try.prog 47 #[v, .func (.func N) #[] #[p]] w fun e w' => e = .returned (.bool (xs.any P)) ∧ Below w.heap.size w w' := by
  go_enter Try.func47, Try.ntmps47
  go_wp2_with fail
  refine (idxL1_any N p P v xs _ h hN hF).mono ?_
  rintro e w1 ⟨r, rfl, hr, hb⟩
  have HX := Lib.hid hr.any
  clear hr
  go_wp2
  go_ret
  exact ⟨ret_bool HX.out, hb⟩

theorem enters_vr (args : Array Value) (w : World) : Sem.run Try.prog (callFunc 72 args) w = .ok (.enter 72 args) w := by
  first | rfl | (simp [callFunc, go_sem]; done) | (go_simp; done)

set_option maxHeartbeats 1000000 in
theorem vrow1_any (xs : List (List Int)) (x : List Int) (lv : Option Addr) (c q : Nat) (rv : Value) (w : World) (hq : w.cell? ⟨q, 0, none⟩ = some rv) (hr : RdIntss w rv xs) (h0 : 0 < xs.length)
    (hx : Ints w (.slice lv x.length c) x) (ok : ∀ n ∈ x, I64 n) (hs : x.length ≤ 1048576) :
    Calls Try.prog 72 #[.slice lv x.length c, .pointer (some ⟨q, 0, none⟩)] w fun e w' => e = .returned (.bool (badRow xs x)) ∧ Below w.heap.size w w' := by
  obtain ⟨a, ca, rfl, _, hm⟩ := hr.form'
  have HH := Lib.hid (headD_zero h0)
  by_cases g : RowOk x
  · have G := Lib.hid (rowB_yes g)
    have GR := Lib.hid g
    clear g
    go_enter Try.func72, Try.ntmps72
    go_wp2_with fail
    refine (implValidRow_any _ x _ hx ok hs).mono ?_
    rw [G.out]
    rintro e w1 ⟨rfl, hb1⟩
    have c0 := cellB hb1 hq
    obtain ⟨b2, o2, lv2, c2, rfl, hB2, z0, zv⟩ := (hr.mono hb1).at h0
    rw [Nat.add_zero] at z0
    by_cases hl : x.length = xs[0].length
    · have d1 : ((x.length : Int) != (xs[0].length : Int)) = false := by rw [hl]; simp
      have HX := Lib.hid (bad_no (xs := xs) GR.out (by rw [HH.out]; exact hl))
      clear hl
      go_wp2
      go_ret
      exact ⟨ret_bool HX.out.symm, hb1⟩
    · have d1 : ((x.length : Int) != (xs[0].length : Int)) = true := by simp; omega
      have HX := Lib.hid (bad_len (xs := xs) (x := x) (by rw [HH.out]; exact hl))
      clear hl
      go_wp2
      go_ret
      exact ⟨ret_bool HX.out.symm, hb1⟩
  · have G := Lib.hid (rowB_no g)
    have HX := Lib.hid (bad_row (xs := xs) g)
    clear g
    go_enter Try.func72, Try.ntmps72
    go_wp2_with fail
    refine (implValidRow_any _ x _ hx ok hs).mono ?_
    rw [G.out]
    rintro e w1 ⟨rfl, hb1⟩
    go_wp2
    go_ret
    exact ⟨ret_bool HX.out.symm, hb1⟩

set_option maxHeartbeats 1000000 in
theorem validRows_any (v : Value) (xs : List (List Int)) (w : World) (h : RdIntss w v xs) (ok : okIntss xs) (hs : szIntss xs ≤ 1048576) :
    Calls Try.prog 46 #[v] w fun e w' => e = .returned (.bool (rowsB xs)) ∧ Below w.heap.size w w' := by
  obtain ⟨a, ca, rfl, _, hm⟩ := h.form'
  have hsl := szIntss_len xs
  by_cases g : xs.length ≤ 121
  · have d1 : decide ((xs.length : Int) ≤ 121) = true := by simp; omega
    have HX := Lib.hid (show rowsB xs = !xs.any (badRow xs) by unfold rowsB; rw [decide_eq_true g]; rfl)
    clear g
    cases hA : xs.any (badRow xs)
    all_goals
      have HA := Lib.hid hA; clear hA
      go_enter Try.func46, Try.ntmps46
      go_wp2_with fail
      refine (anyL1_any 72 (.pointer (some ⟨w.heap.size, 0, none⟩)) (badRow xs) _ xs _ (h.mono (by (repeat (first | with_reducible exact Below.refl _ _ | with_reducible exact hbw | (with_reducible refine Below.setCell ?_ ?_ _; rotate_left; · first | exact Nat.le_refl _ | omega | (simp; done) | (simp; omega)) | (with_reducible refine Below.alloc ?_ ?_ _; rotate_left; · first | exact Nat.le_refl _ | omega | (simp; done) | (simp; omega)) | with_reducible refine below_drewN ?_ _ | with_reducible refine Below.drew ?_)))) enters_vr (fun k hk lv c w1 hb1 hi => vrow1_any xs xs[k] lv c _ _ w1 (cellB hb1 (by simp [go_sem])) ((h.mono (by (repeat (first | with_reducible exact Below.refl _ _ | with_reducible exact hbw | (with_reducible refine Below.setCell ?_ ?_ _; rotate_left; · first | exact Nat.le_refl _ | omega | (simp; done) | (simp; omega)) | (with_reducible refine Below.alloc ?_ ?_ _; rotate_left; · first | exact Nat.le_refl _ | omega | (simp; done) | (simp; omega)) | with_reducible refine below_drewN ?_ _ | with_reducible refine Below.drew ?_)))).mono hb1) (by omega) hi (ok _ (List.getElem_mem hk)) (by have := szIntss_at hk; omega))).mono ?_
      rw [HA.out]
      rintro e w1 ⟨rfl, hb⟩
      have hbw : Below w.heap.size w w1 := Below.trans (by (repeat (first | with_reducible exact Below.refl _ _ | with_reducible exact hbw | (with_reducible refine Below.setCell ?_ ?_ _; rotate_left; · first | exact Nat.le_refl _ | omega | (simp; done) | (simp; omega)) | (with_reducible refine Below.alloc ?_ ?_ _; rotate_left; · first | exact Nat.le_refl _ | omega | (simp; done) | (simp; omega)) | with_reducible refine below_drewN ?_ _ | with_reducible refine Below.drew ?_))) (hb.mono (by simp <;> omega))
      have HB := Lib.hid hbw; clear hb hbw
      go_wp2
      go_ret
      exact ⟨ret_bool (by rw [HX.out, HA.out]; rfl), HB.out⟩
  · have d1 : decide ((xs.length : Int) ≤ 121) = false := by simp; omega
    have HX := Lib.hid (show rowsB xs = false by unfold rowsB; rw [decide_eq_false g]; rfl)
    clear g
    go_enter Try.func46, Try.ntmps46
    go_wp2
    go_ret
    refine ⟨ret_bool HX.out.symm, ?_⟩
    (repeat (first | with_reducible exact Below.refl _ _ | with_reducible exact hbw | (with_reducible refine Below.setCell ?_ ?_ _; rotate_left; · first | exact Nat.le_refl _ | omega | (simp; done) | (simp; omega)) | (with_reducible refine Below.alloc ?_ ?_ _; rotate_left; · first | exact Nat.le_refl _ | omega | (simp; done) | (simp; omega)) | with_reducible refine below_drewN ?_ _ | with_reducible refine Below.drew ?_))

end Go.Proofs.Ytadnejajbdipoaa
