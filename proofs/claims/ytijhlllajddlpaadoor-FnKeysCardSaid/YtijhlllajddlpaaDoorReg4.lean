/- A region that draws its order, walked in one, where some operations write blocks from B1 up to E1 and some, later ones, blocks from B up to E: what only reads ('soft': in every world; 'late': until the later ones), and all else. No program in sight. -/
import Derived.Test.YtijhlllajddlpaaDoorReg3
set_option linter.unusedSimpArgs false
set_option linter.unnecessarySimpa false
set_option linter.unusedVariables false
namespace Go.Proofs.YtijhlllajddlpaaDoor
open Go.RowKit

section
variable {P : Program} {ops : Array Oper} {md : Region.Mode} {Q : Exit → Act → World → Prop} {w0 : World} {B E B1 E1 : Nat} {H H2 : List Nat}

/-- The world while the operations of 'listed' have come up: H all that is not soft, H2 of them what may write. -/
def St4 (w0 : World) (B E B1 E1 : Nat) (H H2 : List Nat) (listed : Array Bool) (w : World) : Prop :=
  Touch B E w0 w ∧ ((∀ j ∈ H, listed.getD j true = false) → w = w0) ∧ ((∀ j ∈ H2, listed.getD j true = false) → Touch B1 E1 w0 w)

def wpAny4 (P : Program) (md : Region.Mode) (ops : Array Oper) (Q : Exit → Act → World → Prop) (w0 : World) (B E B1 E1 : Nat) (H H2 : List Nat) : Nat → Array Bool → Act → World → Prop
  | 0, listed, a, w => Region.ready md ops listed = [] ∧ Q .normal a w
  | fuel + 1, listed, a, w =>
    (Region.ready md ops listed = [] → Q .normal a w) ∧
    ∀ i ∈ Region.ready md ops listed, wpOp P ops Q i (fun a' w' => St4 w0 B E B1 E1 H H2 (listed.setIfInBounds i true) w' ∧ wpAny4 P md ops Q w0 B E B1 E1 H H2 fuel (listed.setIfInBounds i true) a' w') a w

theorem wpAny_of_4 : ∀ (fuel : Nat) (listed : Array Bool) (a : Act) (w : World), wpAny4 P md ops Q w0 B E B1 E1 H H2 fuel listed a w → wpAny P md ops Q fuel listed a w
  | 0, _, _, _, h => h
  | fuel + 1, _, _, _, h => ⟨h.1, fun i hi => wpOp_mono (fun a' w' h' => wpAny_of_4 fuel _ a' w' h'.2) (h.2 i hi)⟩

theorem St4.drop {L : Array Bool} {i j : Nat} {w : World} (hi : i ∉ H) (hi2 : i ∉ H2) (h : St4 w0 B E B1 E1 H H2 ((L.setIfInBounds i true).setIfInBounds j true) w) : St4 w0 B E B1 E1 H H2 (L.setIfInBounds j true) w :=
  ⟨h.1, fun g => h.2.1 (un_drop hi g), fun g => h.2.2 (un_drop hi2 g)⟩
theorem St4.add {L : Array Bool} {i : Nat} {w : World} (hi : i ∉ H) (hi2 : i ∉ H2) (h : St4 w0 B E B1 E1 H H2 L w) : St4 w0 B E B1 E1 H H2 (L.setIfInBounds i true) w :=
  ⟨h.1, fun g => h.2.1 (un_add hi g), fun g => h.2.2 (un_add hi2 g)⟩
theorem St4.hard {L : Array Bool} {j : Nat} {w : World} (hj : j ∈ H) (hj2 : j ∈ H2) (h : Touch B E w0 w) : St4 w0 B E B1 E1 H H2 (L.setIfInBounds j true) w :=
  ⟨h, fun g => (un_no hj g).elim, fun g => (un_no hj2 g).elim⟩
theorem touch_in {w w' : World} (h : Touch B1 E1 w w') (hin : B ≤ B1 ∧ E1 ≤ E) : Touch B E w w' := ⟨h.os, h.tape, h.output, h.size, fun k hk hr => h.block k hk (by omega)⟩
theorem St4.new {L : Array Bool} {j : Nat} {w : World} (hj : j ∈ H) (hin : B ≤ B1 ∧ E1 ≤ E) (h : Touch B1 E1 w0 w) : St4 w0 B E B1 E1 H H2 (L.setIfInBounds j true) w :=
  ⟨touch_in h hin, fun g => (un_no hj g).elim, fun _ => h⟩

/-- 'i' may be taken first. 'C': the worlds in which it may come up. -/
theorem wpAny4_first {C : World → Prop} {I : Array Bool → Prop} {i : Nat} {oi : Oper} {v : Value} (hi : ops[i]? = some oi) (hsel : ∀ (j : Nat) (o : Oper) cs b, ops[j]? = some o → o.op ≠ .select cs b) (hiH : i ∉ H) (hiH2 : i ∉ H2)
    (hQ : ∀ c a w, Q (.panic c) (a.put oi.dst v) w → Q (.panic c) a w)
    (hC : ∀ L w, I L → L.getD i true = false → St4 w0 B E B1 E1 H H2 L w → C w)
    (hI : ∀ L j oj, I L → ops[j]? = some oj → (∀ e ∈ oj.after, Region.binds md e = true → e.on ≠ i) → I (L.setIfInBounds j true)) :
    ∀ (fuel : Nat) (listed : Array Bool) (a : Act) (w : World),
      (∀ j oj, ops[j]? = some oj → j ≠ i → listed.getD j true = false → (∀ e ∈ oj.after, Region.binds md e = true → e.on ≠ i) → oi.apart ops oj = true) →
      i ∈ Region.ready md ops listed → I listed → YieldsIf P ops C oi v a → St4 w0 B E B1 E1 H H2 listed w →
      wpAny4 P md ops Q w0 B E B1 E1 H H2 fuel (listed.setIfInBounds i true) (a.put oi.dst v) w → wpAny4 P md ops Q w0 B E B1 E1 H H2 (fuel + 1) listed a w := by
  intro fuel
  induction fuel with
  | zero =>
    intro listed a w _ hr hIL hy hS HH
    refine ⟨fun h => (by rw [h] at hr; cases hr), fun j hj => ?_⟩
    by_cases hji : j = i
    · subst hji; exact hy.wpOp hi (hC _ _ hIL (mem_ready.1 hr).1 hS) ⟨hS.add hiH hiH2, HH⟩
    · have := ready_mono hj hji
      rw [HH.1] at this
      cases this
  | succ fuel ih =>
    intro listed a w hfree hr hIL hy hS HH
    refine ⟨fun h => (by rw [h] at hr; cases hr), fun j hj => ?_⟩
    by_cases hji : j = i
    · subst hji; exact hy.wpOp hi (hC _ _ hIL (mem_ready.1 hr).1 hS) ⟨hS.add hiH hiH2, HH⟩
    · have h1 := HH.2 j (ready_mono hj hji)
      obtain ⟨hjun, oj, hoj, hall⟩ := mem_ready.1 hj
      have hnot : ∀ e ∈ oj.after, Region.binds md e = true → e.on ≠ i := fun e he hb heq => by
        have h1 := hall e he hb
        have h0 := (mem_ready.1 hr).1
        rw [heq] at h1
        rcases Nat.lt_or_ge i listed.size with h' | h'
        · simp [h'] at h0 h1; rw [h0] at h1; cases h1
        · simp [Array.getElem?_eq_none h'] at h1
      have h2 := wpOp_putIf hoj (hfree j oj hoj hji hjun hnot) (fun cs b => hsel i oi cs b hi) (fun cs b => hsel j oj cs b hoj) hQ hy h1
      have hfree' : ∀ k ok, ops[k]? = some ok → k ≠ i → (listed.setIfInBounds j true).getD k true = false →
          (∀ e ∈ ok.after, Region.binds md e = true → e.on ≠ i) → oi.apart ops ok = true := fun k ok hk hki hun hno => by
        refine hfree k ok hk hki ?_ hno
        by_cases hjk : j = k
        · subst hjk; exact hjun
        · rw [getD_set_ne true hjk] at hun; exact hun
      refine wpOp_mono (fun a' w' h3 => ⟨h3.2.1.drop hiH hiH2, ih (listed.setIfInBounds j true) a' w' hfree' (ready_mono hr (Ne.symm hji)) (hI _ _ _ hIL hoj hnot) h3.1 (h3.2.1.drop hiH hiH2) ?_⟩) h2
      rw [Array.setIfInBounds_comm _ _ hji]
      exact h3.2.2

/-- The walk in a given order: 0 what writes, 1 soft, 2 pre, 3 late, 4 all else. -/
def wpOrd4 (P : Program) (ops : Array Oper) (Q : Exit → Act → World → Prop) (w0 : World) (B E B1 E1 : Nat) (T : Act → World → Prop) : List (Nat × Nat) → Act → World → Prop
  | [], a, w => T a w
  | (i, 1) :: r, a, w =>
    match ops[i]? with
    | none => False
    | some o => if Region.wanted o (yielded ops a.tmps) = true then softT P w0 B E o a (fun a' => wpOrd4 P ops Q w0 B E B1 E1 T r a' w) else wpOrd4 P ops Q w0 B E B1 E1 T r (a.put o.dst undef) w
  | (i, 2) :: r, a, w =>
    match ops[i]? with
    | none => False
    | some o => if Region.wanted o (yielded ops a.tmps) = true then preAt P w0 o a (fun a' => wpOrd4 P ops Q w0 B E B1 E1 T r a' w) else wpOrd4 P ops Q w0 B E B1 E1 T r (a.put o.dst undef) w
  | (i, 3) :: r, a, w =>
    match ops[i]? with
    | none => False
    | some o => if Region.wanted o (yielded ops a.tmps) = true then softT P w0 B1 E1 o a (fun a' => wpOrd4 P ops Q w0 B E B1 E1 T r a' w) else wpOrd4 P ops Q w0 B E B1 E1 T r (a.put o.dst undef) w
  | (i, 4) :: r, a, w => wpOp P ops Q i (fun a' w' => Touch B1 E1 w0 w' ∧ wpOrd4 P ops Q w0 B E B1 E1 T r a' w') a w
  | (i, _) :: r, a, w => wpOp P ops Q i (fun a' w' => Touch B E w0 w' ∧ wpOrd4 P ops Q w0 B E B1 E1 T r a' w') a w

theorem wpOrd4_sound (hin : B ≤ B1 ∧ E1 ≤ E) (hsel : Region.noSelect ops = true) (hQ : ∀ c a d v w, Q (.panic c) (Act.put a d v) w → Q (.panic c) a w) :
    ∀ (l : List (Nat × Nat)) (listed : Array Bool) (a : Act) (w : World), ord3B md ops H H2 l listed = true → St4 w0 B E B1 E1 H H2 listed w →
      wpOrd4 P ops Q w0 B E B1 E1 (Q .normal) l a w → wpAny4 P md ops Q w0 B E B1 E1 H H2 l.length listed a w
  | [], listed, a, w, hB, hS, h => ⟨by simpa [ord3B] using hB, h⟩
  | (i, 1) :: r, listed, a, w, hB, hS, h => by
    simp only [ord3B, Bool.and_eq_true, Bool.not_eq_true', List.contains_eq_mem, decide_eq_false_iff_not] at hB
    obtain ⟨⟨⟨⟨hr, hf⟩, hiH⟩, hiH2⟩, hB'⟩ := hB
    simp only [wpOrd4] at h
    split at h
    · exact h.elim
    · rename_i o ho
      have fin : ∀ v, YieldsIf P ops (fun w => Touch B E w0 w) o v a → wpOrd4 P ops Q w0 B E B1 E1 (Q .normal) r (a.put o.dst v) w → wpAny4 P md ops Q w0 B E B1 E1 H H2 (((i, 1) :: r).length) listed a w := fun v hy h2 =>
        wpAny4_first (C := fun w => Touch B E w0 w) (I := fun _ => True) ho (Region.noSelect_spec hsel) hiH hiH2 (fun c a w => hQ c a _ _ w) (fun _ _ _ _ h => h.1) (fun _ _ _ _ _ _ => trivial) r.length listed a w (Region.free_spec ho hf) (by simpa using hr) trivial hy hS
          (wpOrd4_sound hin hsel hQ r _ _ w hB' (hS.add hiH hiH2) h2)
      split at h
      · rename_i hw
        obtain ⟨v, h1, h2⟩ := h
        refine fin v (.inl ⟨hw, fun w' hw' => ?_⟩) h2
        obtain ⟨x, rfl⟩ := extT_of_touch hw'
        exact h1 x
      · rename_i hw
        exact fin undef (.inr ⟨by simpa using hw, rfl⟩) h
  | (i, 2) :: r, listed, a, w, hB, hS, h => by
    simp only [ord3B, Bool.and_eq_true, Bool.not_eq_true', List.contains_eq_mem, decide_eq_false_iff_not, List.all_eq_true] at hB
    obtain ⟨⟨⟨⟨⟨hr, hf⟩, hiH⟩, hiH2⟩, hall⟩, hB'⟩ := hB
    have hun : ∀ j ∈ H, listed.getD j true = false := fun j hj => (hall j hj).1
    have hwt : ∀ j ∈ H, waitsB md ops i j = true := fun j hj => (hall j hj).2
    simp only [wpOrd4] at h
    split at h
    · exact h.elim
    · rename_i o ho
      have fin : ∀ v, YieldsIf P ops (fun w => w = w0) o v a → wpOrd4 P ops Q w0 B E B1 E1 (Q .normal) r (a.put o.dst v) w → wpAny4 P md ops Q w0 B E B1 E1 H H2 (((i, 2) :: r).length) listed a w := fun v hy h2 =>
        wpAny4_first (C := fun w => w = w0) (I := fun L => ∀ j ∈ H, L.getD j true = false) ho (Region.noSelect_spec hsel) hiH hiH2 (fun c a w => hQ c a _ _ w) (fun _ _ hI _ h => h.2.1 hI) (fun L j oj hI hoj hno k hk => by
            rw [getD_set_ne' (waits_ne hoj hno (hwt k hk))]; exact hI k hk) r.length listed a w (Region.free_spec ho hf) (by simpa using hr) hun hy hS
          (wpOrd4_sound hin hsel hQ r _ _ w hB' (hS.add hiH hiH2) h2)
      split at h
      · rename_i hw
        obtain ⟨v, h1, h2⟩ := h
        exact fin v (.inl ⟨hw, fun w' hw' => by rw [hw']; exact h1⟩) h2
      · rename_i hw
        exact fin undef (.inr ⟨by simpa using hw, rfl⟩) h
  | (i, 3) :: r, listed, a, w, hB, hS, h => by
    simp only [ord3B, Bool.and_eq_true, Bool.not_eq_true', List.contains_eq_mem, decide_eq_false_iff_not, List.all_eq_true] at hB
    obtain ⟨⟨⟨⟨⟨hr, hf⟩, hiH⟩, hiH2⟩, hall⟩, hB'⟩ := hB
    have hun : ∀ j ∈ H2, listed.getD j true = false := fun j hj => (hall j hj).1
    have hwt : ∀ j ∈ H2, waitsB md ops i j = true := fun j hj => (hall j hj).2
    simp only [wpOrd4] at h
    split at h
    · exact h.elim
    · rename_i o ho
      have fin : ∀ v, YieldsIf P ops (fun w => Touch B1 E1 w0 w) o v a → wpOrd4 P ops Q w0 B E B1 E1 (Q .normal) r (a.put o.dst v) w → wpAny4 P md ops Q w0 B E B1 E1 H H2 (((i, 3) :: r).length) listed a w := fun v hy h2 =>
        wpAny4_first (C := fun w => Touch B1 E1 w0 w) (I := fun L => ∀ j ∈ H2, L.getD j true = false) ho (Region.noSelect_spec hsel) hiH hiH2 (fun c a w => hQ c a _ _ w) (fun _ _ hI _ h => h.2.2 hI) (fun L j oj hI hoj hno k hk => by
            rw [getD_set_ne' (waits_ne hoj hno (hwt k hk))]; exact hI k hk) r.length listed a w (Region.free_spec ho hf) (by simpa using hr) hun hy hS
          (wpOrd4_sound hin hsel hQ r _ _ w hB' (hS.add hiH hiH2) h2)
      split at h
      · rename_i hw
        obtain ⟨v, h1, h2⟩ := h
        refine fin v (.inl ⟨hw, fun w' hw' => ?_⟩) h2
        obtain ⟨x, rfl⟩ := extT_of_touch hw'
        exact h1 x
      · rename_i hw
        exact fin undef (.inr ⟨by simpa using hw, rfl⟩) h
  | (i, 4) :: r, listed, a, w, hB, hS, h => by
    simp only [ord3B, Bool.and_eq_true, decide_eq_true_eq] at hB
    obtain ⟨⟨hr, hiH⟩, hB'⟩ := hB
    refine ⟨(fun h0 => by rw [hr] at h0; cases h0), fun j hj => ?_⟩
    rw [hr] at hj
    obtain rfl : j = i := by simpa using hj
    exact wpOp_mono (fun a' w' h' => ⟨St4.new (by simpa using hiH) hin h'.1, wpOrd4_sound hin hsel hQ r _ a' w' hB' (St4.new (by simpa using hiH) hin h'.1) h'.2⟩) h
  | (i, 0) :: r, listed, a, w, hB, hS, h => by
    simp only [ord3B, Bool.and_eq_true, decide_eq_true_eq] at hB
    obtain ⟨⟨⟨hr, hiH⟩, hiH2⟩, hB'⟩ := hB
    refine ⟨(fun h0 => by rw [hr] at h0; cases h0), fun j hj => ?_⟩
    rw [hr] at hj
    obtain rfl : j = i := by simpa using hj
    exact wpOp_mono (fun a' w' h' => ⟨St4.hard (by simpa using hiH) (by simpa using hiH2) h'.1, wpOrd4_sound hin hsel hQ r _ a' w' hB' (St4.hard (by simpa using hiH) (by simpa using hiH2) h'.1) h'.2⟩) h
  | (i, n + 5) :: r, listed, a, w, hB, hS, h => by
    simp only [ord3B, Bool.and_eq_true, decide_eq_true_eq] at hB
    obtain ⟨⟨⟨hr, hiH⟩, hiH2⟩, hB'⟩ := hB
    refine ⟨(fun h0 => by rw [hr] at h0; cases h0), fun j hj => ?_⟩
    rw [hr] at hj
    obtain rfl : j = i := by simpa using hj
    exact wpOp_mono (fun a' w' h' => ⟨St4.hard (by simpa using hiH) (by simpa using hiH2) h'.1, wpOrd4_sound hin hsel hQ r _ a' w' hB' (St4.hard (by simpa using hiH) (by simpa using hiH2) h'.1) h'.2⟩) h

/-- A region in the order 'ord'. -/
theorem wp_region_ord4 {id : Nat} {a : Act} {w : World} {l : List Oper} (ord : List (Nat × Nat)) (H H2 : List Nat) (B E B1 E1 : Nat) (hin : B ≤ B1 ∧ E1 ≤ E) (hm : P.follows .mixedOrders = true)
    (hB : (Region.noSelect l.toArray && decide (ord.length = l.length) && ord3B .any l.toArray H H2 ord (Array.replicate l.length false)) = true)
    (h : wpOrd4 P l.toArray (NoPanic Q) w.drew B E B1 E1 (NoPanic Q .normal) ord a w.drew) : (Code.region id l.toArray true).wp P Q a w := by
  simp only [Bool.and_eq_true, decide_eq_true_eq] at hB
  obtain ⟨⟨h1, h2⟩, h3⟩ := hB
  refine wp_region_noPanic (wp_region_any hm ?_)
  have := wpOrd4_sound (md := .any) (w0 := w.drew) (B := B) (E := E) (B1 := B1) (E1 := E1) (H := H) (H2 := H2) hin h1 (fun c a d v w h => (h : False).elim) ord _ a w.drew h3 ⟨Touch.refl _ _ _, fun _ => rfl, fun _ => Touch.refl _ _ _⟩ h
  rw [h2] at this
  exact wpAny_of_4 _ _ _ _ (by simpa using this)

theorem wpOrd4_nil {T : Act → World → Prop} {a : Act} {w : World} (h : T a w) : wpOrd4 P ops Q w0 B E B1 E1 T [] a w := h
theorem wpOrd4_soft {T : Act → World → Prop} {i : Nat} {r : List (Nat × Nat)} {a : Act} {w : World}
    (h : ∀ K : Act → Prop, (∀ a, wpOrd4 P ops Q w0 B E B1 E1 T r a w → K a) → match ops[i]? with | none => False | some o => if Region.wanted o (yielded ops a.tmps) = true then softT P w0 B E o a K else K (a.put o.dst undef)) : wpOrd4 P ops Q w0 B E B1 E1 T ((i, 1) :: r) a w :=
  h _ fun _ h => h
theorem wpOrd4_pre {T : Act → World → Prop} {i : Nat} {r : List (Nat × Nat)} {a : Act} {w : World}
    (h : ∀ K : Act → Prop, (∀ a, wpOrd4 P ops Q w0 B E B1 E1 T r a w → K a) → match ops[i]? with | none => False | some o => if Region.wanted o (yielded ops a.tmps) = true then preAt P w0 o a K else K (a.put o.dst undef)) : wpOrd4 P ops Q w0 B E B1 E1 T ((i, 2) :: r) a w :=
  h _ fun _ h => h
theorem wpOrd4_late {T : Act → World → Prop} {i : Nat} {r : List (Nat × Nat)} {a : Act} {w : World}
    (h : ∀ K : Act → Prop, (∀ a, wpOrd4 P ops Q w0 B E B1 E1 T r a w → K a) → match ops[i]? with | none => False | some o => if Region.wanted o (yielded ops a.tmps) = true then softT P w0 B1 E1 o a K else K (a.put o.dst undef)) : wpOrd4 P ops Q w0 B E B1 E1 T ((i, 3) :: r) a w :=
  h _ fun _ h => h
theorem wpOrd4_hard {T : Act → World → Prop} {i : Nat} {r : List (Nat × Nat)} {a : Act} {w : World}
    (h : match ops[i]? with | none => False | some o => wpList P ops (only Q fun a' w' => Touch B E w0 w' ∧ wpOrd4 P ops Q w0 B E B1 E1 T r a' w') [o] a w) : wpOrd4 P ops Q w0 B E B1 E1 T ((i, 0) :: r) a w := wpOp_only h
theorem wpOrd4_new {T : Act → World → Prop} {i : Nat} {r : List (Nat × Nat)} {a : Act} {w : World}
    (h : match ops[i]? with | none => False | some o => wpList P ops (only Q fun a' w' => Touch B1 E1 w0 w' ∧ wpOrd4 P ops Q w0 B E B1 E1 T r a' w') [o] a w) : wpOrd4 P ops Q w0 B E B1 E1 T ((i, 4) :: r) a w := wpOp_only h

end
end Go.Proofs.YtijhlllajddlpaaDoor
