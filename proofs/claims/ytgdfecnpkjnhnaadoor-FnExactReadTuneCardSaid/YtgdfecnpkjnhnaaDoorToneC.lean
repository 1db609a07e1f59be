/- Contracts of cmp.Or, compareTones, l25Tone, l25Before. -/
import Derived.Test.YtgdfecnpkjnhnaaDoorToneV
set_option linter.unusedSimpArgs false
set_option linter.unnecessarySimpa false
set_option linter.unusedVariables false
namespace Go.Proofs.YtgdfecnpkjnhnaaDoor
open Go.RowKit

/-- The first number that is not 0, or 0. -/
def orI (zs : List Int) : Int := (zs.find? (fun z => z != 0)).getD 0
theorem orI_at {zs : List Int} {k : Nat} (hk : k < zs.length) (h : ∀ i (hi : i < zs.length), i < k → zs[i] = 0) (hz : zs[k] ≠ 0) : orI zs = zs[k] := by
  unfold orI
  have : zs.find? (fun z => z != 0) = some zs[k] := by
    rw [List.find?_eq_some_iff_getElem]
    exact ⟨by simpa using hz, k, hk, rfl, fun j hj => by simpa using h j (by omega) hj⟩
  rw [this]; rfl
theorem orI_none {zs : List Int} (h : ∀ i (hi : i < zs.length), zs[i] = 0) : orI zs = 0 := by
  unfold orI
  have : zs.find? (fun z => z != 0) = none := by
    rw [List.find?_eq_none]; intro x hx; obtain ⟨i, hi, rfl⟩ := List.getElem_of_mem hx; simp [h i hi]
  rw [this]; rfl

theorem zero_step {zs : List Int} {k : Nat} {hk : k < zs.length} (h : ∀ i (hi : i < zs.length), i < k → zs[i] = 0) (hp : zs[k] = 0) : ∀ i (hi : i < zs.length), i < k + 1 → zs[i] = 0 := fun i hi hik => by
  by_cases e : i = k
  · subst e; exact hp
  · exact h i hi (by omega)

set_option maxHeartbeats 400000 in
theorem or_any (v : Value) (zs : List Int) (w : World) (h1 : Ints w v zs) (hz : zs.length ≤ 1000) :
    Calls Tryd.prog 95 #[v] w fun e w' => e = .returned (.int .i64 (orI zs)) ∧ w' = w := by
  obtain ⟨a, ca, rfl, _, _, _⟩ := id h1
  go_enter Tryd.func95, Tryd.ntmps95
  go_wp2
  go_loop [8, 5] (fun i _ => ∃ k : Nat, k ≤ zs.length ∧ i = .int .i64 k ∧ (∀ i (hi : i < zs.length), i < k → zs[i] = 0)) (fun i _ => zs.length - (intOf i).toNat)
  case atStart => exact ⟨0, Nat.zero_le _, rfl, by intro i _ h; omega⟩
  case round =>
    obtain ⟨k, hk, rfl, ht'⟩ := hrel
    have ht := Lib.hid ht'; clear ht'
    by_cases hlt : k < zs.length
    · obtain ⟨b1, o1, rfl, c1⟩ := h1.cells (by simp; omega)
      have d1 : w.cell? ⟨b1, o1 + k, none⟩ = some (.int .i64 zs[k]) := c1 k _ (by simp [hlt])
      clear c1
      by_cases hz : zs[k] = 0
      · have hz2 : (zs[k] != 0) = false := by simpa using hz
        have HZ := Lib.hid hz; clear hz
        go_wp2
        exact ⟨⟨k + 1, by omega, by go_num, zero_step ht.out HZ.out⟩, by simp [intOf]; omega⟩
      · have hz2 : (zs[k] != 0) = true := by simpa using hz
        have HZ := Lib.hid (orI_at hlt ht.out hz); clear hz
        go_wp2
        go_ret
        exact ⟨by rw [HZ.out]; rfl, rfl⟩
    · have H := Lib.hid (orI_none (zs := zs) fun i hi => ht.out i hi (by omega))
      go_wp2
      go_ret
      exact ⟨by rw [H.out]; rfl, rfl⟩

/-- What compareTones answers. -/
def cmpT (x y : Ton) : Int := orI [cmpI x.start y.start, cmpI x.note y.note]
theorem cmpI_bd (a b : Int) : -1 ≤ cmpI a b ∧ cmpI a b ≤ 1 := by 
  unfold cmpI; split
  · omega
  · split <;> omega
theorem cmpT_neg (x y : Ton) : cmpT x y < 0 ↔ before x y := by
  unfold cmpT before orI cmpI
  rcases Int.lt_trichotomy x.start y.start with h | h | h
  · simp [h]
  · rcases Int.lt_trichotomy x.note y.note with g | g | g
    · simp [h, g]
    · simp [h, g]
    · have h1 : ¬ x.note < y.note := by omega
      simp [h, g, h1]
  · have h1 : ¬ x.start < y.start := by omega
    have h2 : ¬ x.start = y.start := by omega
    simp [h, h1, h2]

set_option maxHeartbeats 1000000 in
theorem compareTones_any (x y : Ton) (w : World) :
    Calls Tryd.prog 71 #[.agg #[.int .i64 x.note, .int .i64 x.start, .int .i64 x.len], .agg #[.int .i64 y.note, .int .i64 y.start, .int .i64 y.len]] w fun e w' => e = .returned (.int .i64 (cmpT x y)) ∧ Below w.heap.size w w' := by
  go_enter Tryd.func71, Tryd.ntmps71
  go_wp2_with fail
  refine wp_region_ord [(0, true), (1, true), (2, true), (3, true), (5, true), (6, true), (7, true), (8, true), (4, false), (9, false), (10, false), (11, false), (12, true)] (none) (by kernel_rfl) (by kernel_rfl) ?_
  (repeat (with_reducible refine wpOrd_soft (fun K hK => ?_); simp only [List.getElem?_toArray, List.getElem?_cons_zero, List.getElem?_cons_succ]; first | (go_simp; refine hK _ ?_) | (simp only [undef]; go_simp; refine hK _ ?_); clear hK K))
  (with_reducible refine wpOrd_hard ?_; simp only [List.getElem?_toArray, List.getElem?_cons_zero, List.getElem?_cons_succ])
  go_wp2_with fail
  refine (compare_any x.start y.start _).mono ?_
  rintro e w1 ⟨rfl, rfl⟩
  go_wp2_with fail
  refine ⟨⟨rfl, rfl, rfl, Nat.le_refl _, fun _ _ _ => rfl⟩, ?_⟩
  (with_reducible refine wpOrd_hard ?_; simp only [List.getElem?_toArray, List.getElem?_cons_zero, List.getElem?_cons_succ])
  go_wp2_with fail
  refine (compare_any x.note y.note _).mono ?_
  rintro e w1 ⟨rfl, rfl⟩
  go_wp2_with fail
  refine ⟨⟨rfl, rfl, rfl, Nat.le_refl _, fun _ _ _ => rfl⟩, ?_⟩
  (with_reducible refine wpOrd_hard ?_; simp only [List.getElem?_toArray, List.getElem?_cons_zero, List.getElem?_cons_succ])
  go_wp2_with fail
  refine And.intro (grown_of_below (by (repeat (first | with_reducible exact Below.refl _ _ | with_reducible exact hbw | (with_reducible refine Below.setCell ?_ ?_ _; rotate_left; · first | exact Nat.le_refl _ | omega | (simp; done) | (simp; omega)) | (with_reducible refine Below.alloc ?_ ?_ _; rotate_left; · first | exact Nat.le_refl _ | omega | (simp; done) | (simp; omega)) | with_reducible refine below_drewN ?_ _ | with_reducible refine Below.drew ?_)))) ?_
  (with_reducible refine wpOrd_hard ?_; simp only [List.getElem?_toArray, List.getElem?_cons_zero, List.getElem?_cons_succ])
  go_wp2_with fail
  refine (or_any _ [cmpI x.start y.start, cmpI x.note y.note] _ ?_ (by simp)).mono ?_
  · refine ⟨some ⟨w.heap.size + 1 + 1, 0, none⟩, 2, rfl, by simp, by simp [maxLen], fun j u hu => ⟨_, _, rfl, ?_⟩⟩
    match j, hu with
    | 0, hu => simp at hu; subst hu; simp [go_sem]
    | 1, hu => simp at hu; subst hu; simp [go_sem]
    | j + 2, hu => simp at hu
  rintro e w1 ⟨rfl, rfl⟩
  go_wp2_with fail
  refine ⟨grown_of_below (by (repeat (first | with_reducible exact Below.refl _ _ | with_reducible exact hbw | (with_reducible refine Below.setCell ?_ ?_ _; rotate_left; · first | exact Nat.le_refl _ | omega | (simp; done) | (simp; omega)) | (with_reducible refine Below.alloc ?_ ?_ _; rotate_left; · first | exact Nat.le_refl _ | omega | (simp; done) | (simp; omega)) | with_reducible refine below_drewN ?_ _ | with_reducible refine Below.drew ?_))), ?_⟩
  (repeat (with_reducible refine wpOrd_soft (fun K hK => ?_); simp only [List.getElem?_toArray, List.getElem?_cons_zero, List.getElem?_cons_succ]; first | (go_simp; refine hK _ ?_) | (simp only [undef]; go_simp; refine hK _ ?_); clear hK K))
  (with_reducible refine wpOrd_nil ?_); refine NoPanic.normal ?_
  go_wp2
  go_ret
  refine ⟨rfl, ?_⟩
  (repeat (first | with_reducible exact Below.refl _ _ | with_reducible exact hbw | (with_reducible refine Below.setCell ?_ ?_ _; rotate_left; · first | exact Nat.le_refl _ | omega | (simp; done) | (simp; omega)) | (with_reducible refine Below.alloc ?_ ?_ _; rotate_left; · first | exact Nat.le_refl _ | omega | (simp; done) | (simp; omega)) | with_reducible refine below_drewN ?_ _ | with_reducible refine Below.drew ?_))

end Go.Proofs.YtgdfecnpkjnhnaaDoor
