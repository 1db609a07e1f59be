/- A drawn tune turned round twice is the tune, moved to 0. Plain. -/
import Derived.Test.YthnnjjcopehccaaRevI
import Derived.Test.YthnnjjcopehccaaTunL
set_option linter.unusedSimpArgs false
set_option linter.unnecessarySimpa false
set_option linter.unusedVariables false
set_option maxRecDepth 100000
namespace Go.Proofs.Ythnnjjcopehccaa
open Go.RowKit

theorem endOf_fold (xs : List Ton) : ∀ a : Int, a ≤ xs.foldl (fun e x => max e (x.start + x.len)) a ∧ (∀ t ∈ xs, t.start + t.len ≤ xs.foldl (fun e x => max e (x.start + x.len)) a) ∧ (xs.foldl (fun e x => max e (x.start + x.len)) a = a ∨ ∃ t ∈ xs, xs.foldl (fun e x => max e (x.start + x.len)) a = t.start + t.len) := by
  induction xs with
  | nil => intro a; exact ⟨Int.le_refl _, (fun t h => by cases h), Or.inl rfl⟩
  | cons y ys ih =>
    intro a
    obtain ⟨h1, h2, h3⟩ := ih (max a (y.start + y.len))
    simp only [List.foldl_cons]
    refine ⟨by omega, fun t ht => ?_, ?_⟩
    · rcases List.mem_cons.1 ht with rfl | ht
      · omega
      · exact h2 t ht
    · rcases h3 with h3 | ⟨t, ht, h3⟩
      · rcases Int.le_total a (y.start + y.len) with h | h
        · exact .inr ⟨y, List.mem_cons_self .., by rw [h3]; omega⟩
        · exact .inl (by rw [h3]; omega)
      · exact .inr ⟨t, List.mem_cons_of_mem _ ht, h3⟩
theorem endOf_ge {xs : List Ton} {t : Ton} (h : t ∈ xs) : t.start + t.len ≤ endOf xs := (endOf_fold xs 0).2.1 t h
theorem endOf_at (xs : List Ton) : endOf xs = 0 ∨ ∃ t ∈ xs, endOf xs = t.start + t.len := (endOf_fold xs 0).2.2

/-- The start of the first tone. -/
def st0 (xs : List Ton) : Int := (xs.head?.map (·.start)).getD 0
def shf0 (s : Int) (x : Ton) : Ton := ⟨x.note, x.start - s, x.len⟩
theorem st0_le {xs : List Ton} (h : TonesOk xs) {t : Ton} (ht : t ∈ xs) : st0 xs ≤ t.start := by
  have hs := tones_stc h
  cases xs with
  | nil => cases ht
  | cons y ys =>
    simp only [st0, List.head?_cons, Option.map_some, Option.getD_some]
    rcases List.mem_cons.1 ht with rfl | ht
    · omega
    · have := (List.pairwise_cons.1 hs).1 t ht
      unfold before at this
      omega
theorem st0_mem {xs : List Ton} (h : xs ≠ []) : ∃ t ∈ xs, st0 xs = t.start := by
  cases xs with
  | nil => exact absurd rfl h
  | cons y ys => exact ⟨y, List.mem_cons_self .., rfl⟩

/-- The end of the tune turned round. -/
theorem rev_end {xs s : List Ton} (h : TonesOk xs) (hne : xs ≠ []) (hp : s.Perm (xs.map (revF (endOf xs)))) : endOf s = endOf xs - st0 xs := by
  have hm : ∀ t, t ∈ s ↔ ∃ u ∈ xs, revF (endOf xs) u = t := fun t => by rw [hp.mem_iff, List.mem_map]
  obtain ⟨u0, hu0, e0⟩ := st0_mem hne
  have hl0 : 0 ≤ u0.len := by
    obtain ⟨k, hk, rfl⟩ := List.getElem_of_mem hu0
    have := (h k hk hk).1.fits
    omega
  have h1 := endOf_ge hu0
  have h2 := endOf_ge ((hm _).2 ⟨u0, hu0, rfl⟩)
  simp only [revF] at h2
  rcases endOf_at s with h3 | ⟨t, ht, h3⟩
  · omega
  · obtain ⟨u, hu, rfl⟩ := (hm _).1 ht
    have := st0_le h hu
    simp only [revF] at h3
    omega

theorem rev_twice {x : TunD} (h : validTunB x = true) (hc : revC x = 0) :
    validTunB (revV x) = true ∧ (revV x).tones.length = x.tones.length ∧ revC (revV x) = 0 ∧ (revV (revV x)).tones = x.tones.map (shf0 (st0 x.tones)) ∧ (x.tones ≠ [] → endOf (revV x).tones = endOf x.tones - st0 x.tones) ∧ (x.tones = [] → endOf (revV x).tones = 0) := by
  have ho := validTunB_iff.1 h
  obtain ⟨e1, e2⟩ := rev_yes h
  rw [e2] at hc
  have hv : validTunB ⟨x.name, sortT (x.tones.map (revF (endOf x.tones)))⟩ = true := by
    unfold toC at hc
    split at hc
    · assumption
    · cases hc
  have e3 : revV x = ⟨x.name, sortT (x.tones.map (revF (endOf x.tones)))⟩ := by rw [e1]; unfold toV; rw [if_pos hv]
  have hp := sortT_perm (x.tones.map (revF (endOf x.tones)))
  rw [e3]
  simp only
  generalize sortT (x.tones.map (revF (endOf x.tones))) = s at hv hp
  have hl : s.length = x.tones.length := by rw [hp.length_eq, List.length_map]
  obtain ⟨f1, f2⟩ := rev_yes hv
  simp only at f1 f2
  have hend : x.tones ≠ [] → endOf s = endOf x.tones - st0 x.tones := fun hne => rev_end ho.tones hne hp
  have hperm : (x.tones.map (shf0 (st0 x.tones))).Perm (s.map (revF (endOf s))) := by
    by_cases hne : x.tones = []
    · rw [hne] at hp ⊢
      have : s = [] := by simpa using hp
      subst this
      simp
    · have := (hp.map (revF (endOf s))).symm
      rw [List.map_map] at this
      have e : x.tones.map (shf0 (st0 x.tones)) = x.tones.map (revF (endOf s) ∘ revF (endOf x.tones)) := by
        refine List.map_congr_left fun t ht => ?_
        simp only [shf0, Function.comp, revF, Ton.mk.injEq, true_and, and_true]
        rw [hend hne]; omega
      rw [e]; exact this
  have hst : Stc (x.tones.map (shf0 (st0 x.tones))) := by
    unfold Stc
    rw [List.pairwise_map]
    exact (tones_stc ho.tones).imp fun hb => by unfold before at *; simp only [shf0]; omega
  have hval : validTunB ⟨x.name, x.tones.map (shf0 (st0 x.tones))⟩ = true := by
    refine validTunB_iff.2 ⟨ho.name, by simpa using ho.len, fun k hk hk2 => ⟨?_, fun h0 => ?_⟩⟩
    · simp only [List.length_map] at hk
      simp only [List.getElem_map]
      have h1 := (ho.tones k hk hk).1
      have h2 := st0_le ho.tones (List.getElem_mem hk)
      have h3 : 0 ≤ st0 x.tones := by
        obtain ⟨u, hu, e⟩ := st0_mem (xs := x.tones) (by intro e; rw [e] at hk; cases hk)
        obtain ⟨j, hj, rfl⟩ := List.getElem_of_mem hu
        have := (ho.tones j hj hj).1.fits
        omega
      obtain ⟨a1, a2, a3⟩ := (TonOk.iff' _).1 h1
      refine (TonOk.iff' _).2 ⟨a1, ?_, ?_⟩ <;> simp only [shf0] <;> omega
    · exact List.pairwise_iff_getElem.1 hst (k - 1) k (by simp only at hk; omega) hk (by omega)
  obtain ⟨g1, g2⟩ := to_yes hperm (hst.imp fun hb => leT_of hb) hval
  refine ⟨hv, hl, by rw [f2, g2], by rw [f1, g1], hend, fun hne => ?_⟩
  rw [hne] at hl
  have : s = [] := List.length_eq_zero_iff.1 hl
  rw [this]; rfl

theorem rev_code {x : TunD} (h : validTunB x = true) (hc : ¬ revC x = 0) : revC x = 6 := by
  rw [(rev_yes h).2] at *
  unfold toC at *
  split at hc
  · exact absurd rfl hc
  · rename_i g; rw [if_neg g]

end Go.Proofs.Ythnnjjcopehccaa
