import Derived.Test.YtemmnjokojgjaaaFfZ2
import Derived.Test.YtemmnjokojgjaaaFfZ5
import Derived.Test.YtemmnjokojgjaaaFfZ1
import Derived.Lib.SlicesCompact
import Derived.Lib.RowBridge
import Derived.Test.YtemmnjokojgjaaaShelf
import Derived.Test.YtemmnjokojgjaaaChecked
import Derived.Sort.OwnSortedInts
import Derived.Lib.OwnBridge
import Derived.Deep.QuietTactic
import Derived.BigQuiet
/- A region that draws its order, walked in one, where some operations write blocks from B1 up to E1 and some, later ones, blocks from B up to E: what only reads ('soft': in every world; 'late': until the later ones), and all else. No program in sight. -/
set_option linter.unusedSimpArgs false
set_option linter.unnecessarySimpa false
set_option linter.unusedVariables false
namespace Go.Proofs.Ytemmnjokojgjaaa
open Go.RowKit

section
variable {P : Program} {ops : Array Oper} {md : Region.Mode} {Q : Exit → Act → World → Prop} {w0 : World} {B E B1 E1 : Nat} {H H2 : List Nat}

/-- The world while the operations of 'listed' have come up: H all that is not soft, H2 of them what may write. -/
def St4 (w0 : World) (B E B1 E1 : Nat) (H H2 : List Nat) (listed : Array Bool) (w : World) : Prop :=
  Touch B E w0 w ∧ ((∀ j ∈ H, listed.getD j true = false) → w = w0) ∧ ((∀ j ∈ H2, listed.getD j true = false) → Touch B1 E1 w0 w)

def wpAny4 (P : Program) (md : Region.Mode) (ops : Array Oper) (Q : Exit → Act → World → Prop) (w0 : World) (B E B1 E1 : Nat) (H H2 : List Nat) : Nat → Array Bool → Act → World → Prop
  | 0, listed, a, w => Region.ready md ops listed = [] ∧ Q .normal a w
  | fuel + 1, listed, a, w =>
    (Region.ready md ops listed = [] → Q .normal a w) ∧
    ∀ i ∈ Region.ready md ops listed, wpOp P ops Q i (fun a' w' => St4 w0 B E B1 E1 H H2 (listed.setIfInBounds i true) w' ∧ wpAny4 P md ops Q w0 B E B1 E1 H H2 fuel (listed.setIfInBounds i true) a' w') a w

theorem wpAny_of_4 : ∀ (fuel : Nat) (listed : Array Bool) (a : Act) (w : World), wpAny4 P md ops Q w0 B E B1 E1 H H2 fuel listed a w → wpAny P md ops Q fuel listed a w
  | 0, _, _, _, h => h
  | fuel + 1, _, _, _, h => ⟨h.1, fun i hi => wpOp_mono (fun a' w' h' => wpAny_of_4 fuel _ a' w' h'.2) (h.2 i hi)⟩

theorem St4.drop {L : Array Bool} {i j : Nat} {w : World} (hi : i ∉ H) (hi2 : i ∉ H2) (h : St4 w0 B E B1 E1 H H2 ((L.setIfInBounds i true).setIfInBounds j true) w) : St4 w0 B E B1 E1 H H2 (L.setIfInBounds j true) w :=
  ⟨h.1, fun g => h.2.1 (un_drop hi g), fun g => h.2.2 (un_drop hi2 g)⟩
theorem St4.add {L : Array Bool} {i : Nat} {w : World} (hi : i ∉ H) (hi2 : i ∉ H2) (h : St4 w0 B E B1 E1 H H2 L w) : St4 w0 B E B1 E1 H H2 (L.setIfInBounds i true) w :=
  ⟨h.1, fun g => h.2.1 (un_add hi g), fun g => h.2.2 (un_add hi2 g)⟩
theorem St4.hard {L : Array Bool} {j : Nat} {w : World} (hj : j ∈ H) (hj2 : j ∈ H2) (h : Touch B E w0 w) : St4 w0 B E B1 E1 H H2 (L.setIfInBounds j true) w :=
  ⟨h, fun g => (un_no hj g).elim, fun g => (un_no hj2 g).elim⟩
theorem touch_in {w w' : World} (h : Touch B1 E1 w w') (hin : B ≤ B1 ∧ E1 ≤ E) : Touch B E w w' := ⟨h.os, h.tape, h.output, h.size, fun k hk hr => h.block k hk (by omega)⟩
theorem St4.new {L : Array Bool} {j : Nat} {w : World} (hj : j ∈ H) (hin : B ≤ B1 ∧ E1 ≤ E) (h : Touch B1 E1 w0 w) : St4 w0 B E B1 E1 H H2 (L.setIfInBounds j true) w :=
  ⟨touch_in h hin, fun g => (un_no hj g).elim, fun _ => h⟩

/-- 'i' may be taken first. 'C': the worlds in which it may come up. -/
theorem wpAny4_first {C : World → Prop} {I : Array Bool → Prop} {i : Nat} {oi : Oper} {v : Value} (hi : ops[i]? = some oi) (hsel : ∀ (j : Nat) (o : Oper) cs b, ops[j]? = some o → o.op ≠ .select cs b) (hiH : i ∉ H) (hiH2 : i ∉ H2)
    (hQ : ∀ c a w, Q (.panic c) (a.put oi.dst v) w → Q (.panic c) a w)
    (hC : ∀ L w, I L → L.getD i true = false → St4 w0 B E B1 E1 H H2 L w → C w)
    (hI : ∀ L j oj, I L → ops[j]? = some oj → (∀ e ∈ oj.after, Region.binds md e = true → e.on ≠ i) → I (L.setIfInBounds j true)) :
    ∀ (fuel : Nat) (listed : Array Bool) (a : Act) (w : World),
      (∀ j oj, ops[j]? = some oj → j ≠ i → listed.getD j true = false → (∀ e ∈ oj.after, Region.binds md e = true → e.on ≠ i) → oi.apart ops oj = true) →
      i ∈ Region.ready md ops listed → I listed → YieldsIf P ops C oi v a → St4 w0 B E B1 E1 H H2 listed w →
      wpAny4 P md ops Q w0 B E B1 E1 H H2 fuel (listed.setIfInBounds i true) (a.put oi.dst v) w → wpAny4 P md ops Q w0 B E B1 E1 H H2 (fuel + 1) listed a w := by
  intro fuel
  induction fuel with
  | zero =>
    intro listed a w _ hr hIL hy hS HH
    refine ⟨fun h => (by rw [h] at hr; cases hr), fun j hj => ?_⟩
    by_cases hji : j = i
    · subst hji; exact hy.wpOp hi (hC _ _ hIL (mem_ready.1 hr).1 hS) ⟨hS.add hiH hiH2, HH⟩
    · have := ready_mono hj hji
      rw [HH.1] at this
      cases this
  | succ fuel ih =>
    intro listed a w hfree hr hIL hy hS HH
    refine ⟨fun h => (by rw [h] at hr; cases hr), fun j hj => ?_⟩
    by_cases hji : j = i
    · subst hji; exact hy.wpOp hi (hC _ _ hIL (mem_ready.1 hr).1 hS) ⟨hS.add hiH hiH2, HH⟩
    · have h1 := HH.2 j (ready_mono hj hji)
      obtain ⟨hjun, oj, hoj, hall⟩ := mem_ready.1 hj
      have hnot : ∀ e ∈ oj.after, Region.binds md e = true → e.on ≠ i := fun e he hb heq => by
        have h1 := hall e he hb
        have h0 := (mem_ready.1 hr).1
        rw [heq] at h1
        rcases Nat.lt_or_ge i listed.size with h' | h'
        · simp [h'] at h0 h1; rw [h0] at h1; cases h1
        · simp [Array.getElem?_eq_none h'] at h1
      have h2 := wpOp_putIf hoj (hfree j oj hoj hji hjun hnot) (fun cs b => hsel i oi cs b hi) (fun cs b => hsel j oj cs b hoj) hQ hy h1
      have hfree' : ∀ k ok, ops[k]? = some ok → k ≠ i → (listed.setIfInBounds j true).getD k true = false →
          (∀ e ∈ ok.after, Region.binds md e = true → e.on ≠ i) → oi.apart ops ok = true := fun k ok hk hki hun hno => by
        refine hfree k ok hk hki ?_ hno
        by_cases hjk : j = k
        · subst hjk; exact hjun
        · rw [getD_set_ne true hjk] at hun; exact hun
      refine wpOp_mono (fun a' w' h3 => ⟨h3.2.1.drop hiH hiH2, ih (listed.setIfInBounds j true) a' w' hfree' (ready_mono hr (Ne.symm hji)) (hI _ _ _ hIL hoj hnot) h3.1 (h3.2.1.drop hiH hiH2) ?_⟩) h2
      rw [Array.setIfInBounds_comm _ _ hji]
      exact h3.2.2

/-- The walk in a given order: 0 what writes, 1 soft, 2 pre, 3 late, 4 all else. -/
def wpOrd4 (P : Program) (ops : Array Oper) (Q : Exit → Act → World → Prop) (w0 : World) (B E B1 E1 : Nat) (T : Act → World → Prop) : List (Nat × Nat) → Act → World → Prop
  | [], a, w => T a w
  | (i, 1) :: r, a, w =>
    match ops[i]? with
    | none => False
    | some o => if Region.wanted o (yielded ops a.tmps) = true then softT P w0 B E o a (fun a' => wpOrd4 P ops Q w0 B E B1 E1 T r a' w) else wpOrd4 P ops Q w0 B E B1 E1 T r (a.put o.dst undef) w
  | (i, 2) :: r, a, w =>
    match ops[i]? with
    | none => False
    | some o => if Region.wanted o (yielded ops a.tmps) = true then preAt P w0 o a (fun a' => wpOrd4 P ops Q w0 B E B1 E1 T r a' w) else wpOrd4 P ops Q w0 B E B1 E1 T r (a.put o.dst undef) w
  | (i, 3) :: r, a, w =>
    match ops[i]? with
    | none => False
    | some o => if Region.wanted o (yielded ops a.tmps) = true then softT P w0 B1 E1 o a (fun a' => wpOrd4 P ops Q w0 B E B1 E1 T r a' w) else wpOrd4 P ops Q w0 B E B1 E1 T r (a.put o.dst undef) w
  | (i, 4) :: r, a, w => wpOp P ops Q i (fun a' w' => Touch B1 E1 w0 w' ∧ wpOrd4 P ops Q w0 B E B1 E1 T r a' w') a w
  | (i, _) :: r, a, w => wpOp P ops Q i (fun a' w' => Touch B E w0 w' ∧ wpOrd4 P ops Q w0 B E B1 E1 T r a' w') a w

theorem wpOrd4_sound (hin : B ≤ B1 ∧ E1 ≤ E) (hsel : Region.noSelect ops = true) (hQ : ∀ c a d v w, Q (.panic c) (Act.put a d v) w → Q (.panic c) a w) :
    ∀ (l : List (Nat × Nat)) (listed : Array Bool) (a : Act) (w : World), ord3B md ops H H2 l listed = true → St4 w0 B E B1 E1 H H2 listed w →
      wpOrd4 P ops Q w0 B E B1 E1 (Q .normal) l a w → wpAny4 P md ops Q w0 B E B1 E1 H H2 l.length listed a w
  | [], listed, a, w, hB, hS, h => ⟨by simpa [ord3B] using hB, h⟩
  | (i, 1) :: r, listed, a, w, hB, hS, h => by
    simp only [ord3B, Bool.and_eq_true, Bool.not_eq_true', List.contains_eq_mem, decide_eq_false_iff_not] at hB
    obtain ⟨⟨⟨⟨hr, hf⟩, hiH⟩, hiH2⟩, hB'⟩ := hB
    simp only [wpOrd4] at h
    split at h
    · exact h.elim
    · rename_i o ho
      have fin : ∀ v, YieldsIf P ops (fun w => Touch B E w0 w) o v a → wpOrd4 P ops Q w0 B E B1 E1 (Q .normal) r (a.put o.dst v) w → wpAny4 P md ops Q w0 B E B1 E1 H H2 (((i, 1) :: r).length) listed a w := fun v hy h2 =>
        wpAny4_first (C := fun w => Touch B E w0 w) (I := fun _ => True) ho (Region.noSelect_spec hsel) hiH hiH2 (fun c a w => hQ c a _ _ w) (fun _ _ _ _ h => h.1) (fun _ _ _ _ _ _ => trivial) r.length listed a w (Region.free_spec ho hf) (by simpa using hr) trivial hy hS
          (wpOrd4_sound hin hsel hQ r _ _ w hB' (hS.add hiH hiH2) h2)
      split at h
      · rename_i hw
        obtain ⟨v, h1, h2⟩ := h
        refine fin v (.inl ⟨hw, fun w' hw' => ?_⟩) h2
        obtain ⟨x, rfl⟩ := extT_of_touch hw'
        exact h1 x
      · rename_i hw
        exact fin undef (.inr ⟨by simpa using hw, rfl⟩) h
  | (i, 2) :: r, listed, a, w, hB, hS, h => by
    simp only [ord3B, Bool.and_eq_true, Bool.not_eq_true', List.contains_eq_mem, decide_eq_false_iff_not, List.all_eq_true] at hB
    obtain ⟨⟨⟨⟨⟨hr, hf⟩, hiH⟩, hiH2⟩, hall⟩, hB'⟩ := hB
    have hun : ∀ j ∈ H, listed.getD j true = false := fun j hj => (hall j hj).1
    have hwt : ∀ j ∈ H, waitsB md ops i j = true := fun j hj => (hall j hj).2
    simp only [wpOrd4] at h
    split at h
    · exact h.elim
    · rename_i o ho
      have fin : ∀ v, YieldsIf P ops (fun w => w = w0) o v a → wpOrd4 P ops Q w0 B E B1 E1 (Q .normal) r (a.put o.dst v) w → wpAny4 P md ops Q w0 B E B1 E1 H H2 (((i, 2) :: r).length) listed a w := fun v hy h2 =>
        wpAny4_first (C := fun w => w = w0) (I := fun L => ∀ j ∈ H, L.getD j true = false) ho (Region.noSelect_spec hsel) hiH hiH2 (fun c a w => hQ c a _ _ w) (fun _ _ hI _ h => h.2.1 hI) (fun L j oj hI hoj hno k hk => by
            rw [getD_set_ne' (waits_ne hoj hno (hwt k hk))]; exact hI k hk) r.length listed a w (Region.free_spec ho hf) (by simpa using hr) hun hy hS
          (wpOrd4_sound hin hsel hQ r _ _ w hB' (hS.add hiH hiH2) h2)
      split at h
      · rename_i hw
        obtain ⟨v, h1, h2⟩ := h
        exact fin v (.inl ⟨hw, fun w' hw' => by rw [hw']; exact h1⟩) h2
      · rename_i hw
        exact fin undef (.inr ⟨by simpa using hw, rfl⟩) h
  | (i, 3) :: r, listed, a, w, hB, hS, h => by
    simp only [ord3B, Bool.and_eq_true, Bool.not_eq_true', List.contains_eq_mem, decide_eq_false_iff_not, List.all_eq_true] at hB
    obtain ⟨⟨⟨⟨⟨hr, hf⟩, hiH⟩, hiH2⟩, hall⟩, hB'⟩ := hB
    have hun : ∀ j ∈ H2, listed.getD j true = false := fun j hj => (hall j hj).1
    have hwt : ∀ j ∈ H2, waitsB md ops i j = true := fun j hj => (hall j hj).2
    simp only [wpOrd4] at h
    split at h
    · exact h.elim
    · rename_i o ho
      have fin : ∀ v, YieldsIf P ops (fun w => Touch B1 E1 w0 w) o v a → wpOrd4 P ops Q w0 B E B1 E1 (Q .normal) r (a.put o.dst v) w → wpAny4 P md ops Q w0 B E B1 E1 H H2 (((i, 3) :: r).length) listed a w := fun v hy h2 =>
        wpAny4_first (C := fun w => Touch B1 E1 w0 w) (I := fun L => ∀ j ∈ H2, L.getD j true = false) ho (Region.noSelect_spec hsel) hiH hiH2 (fun c a w => hQ c a _ _ w) (fun _ _ hI _ h => h.2.2 hI) (fun L j oj hI hoj hno k hk => by
            rw [getD_set_ne' (waits_ne hoj hno (hwt k hk))]; exact hI k hk) r.length listed a w (Region.free_spec ho hf) (by simpa using hr) hun hy hS
          (wpOrd4_sound hin hsel hQ r _ _ w hB' (hS.add hiH hiH2) h2)
      split at h
      · rename_i hw
        obtain ⟨v, h1, h2⟩ := h
        refine fin v (.inl ⟨hw, fun w' hw' => ?_⟩) h2
        obtain ⟨x, rfl⟩ := extT_of_touch hw'
        exact h1 x
      · rename_i hw
        exact fin undef (.inr ⟨by simpa using hw, rfl⟩) h
  | (i, 4) :: r, listed, a, w, hB, hS, h => by
    simp only [ord3B, Bool.and_eq_true, decide_eq_true_eq] at hB
    obtain ⟨⟨hr, hiH⟩, hB'⟩ := hB
    refine ⟨(fun h0 => by rw [hr] at h0; cases h0), fun j hj => ?_⟩
    rw [hr] at hj
    obtain rfl : j = i := by simpa using hj
    exact wpOp_mono (fun a' w' h' => ⟨St4.new (by simpa using hiH) hin h'.1, wpOrd4_sound hin hsel hQ r _ a' w' hB' (St4.new (by simpa using hiH) hin h'.1) h'.2⟩) h
  | (i, 0) :: r, listed, a, w, hB, hS, h => by
    simp only [ord3B, Bool.and_eq_true, decide_eq_true_eq] at hB
    obtain ⟨⟨⟨hr, hiH⟩, hiH2⟩, hB'⟩ := hB
    refine ⟨(fun h0 => by rw [hr] at h0; cases h0), fun j hj => ?_⟩
    rw [hr] at hj
    obtain rfl : j = i := by simpa using hj
    exact wpOp_mono (fun a' w' h' => ⟨St4.hard (by simpa using hiH) (by simpa using hiH2) h'.1, wpOrd4_sound hin hsel hQ r _ a' w' hB' (St4.hard (by simpa using hiH) (by simpa using hiH2) h'.1) h'.2⟩) h
  | (i, n + 5) :: r, listed, a, w, hB, hS, h => by
    simp only [ord3B, Bool.and_eq_true, decide_eq_true_eq] at hB
    obtain ⟨⟨⟨hr, hiH⟩, hiH2⟩, hB'⟩ := hB
    refine ⟨(fun h0 => by rw [hr] at h0; cases h0), fun j hj => ?_⟩
    rw [hr] at hj
    obtain rfl : j = i := by simpa using hj
    exact wpOp_mono (fun a' w' h' => ⟨St4.hard (by simpa using hiH) (by simpa using hiH2) h'.1, wpOrd4_sound hin hsel hQ r _ a' w' hB' (St4.hard (by simpa using hiH) (by simpa using hiH2) h'.1) h'.2⟩) h

/-- A region in the order 'ord'. -/
theorem wp_region_ord4 {id : Nat} {a : Act} {w : World} {l : List Oper} (ord : List (Nat × Nat)) (H H2 : List Nat) (B E B1 E1 : Nat) (hin : B ≤ B1 ∧ E1 ≤ E) (hm : P.follows .mixedOrders = true)
    (hB : (Region.noSelect l.toArray && decide (ord.length = l.length) && ord3B .any l.toArray H H2 ord (Array.replicate l.length false)) = true)
    (h : wpOrd4 P l.toArray (NoPanic Q) w.drew B E B1 E1 (NoPanic Q .normal) ord a w.drew) : (Code.region id l.toArray true).wp P Q a w := by
  simp only [Bool.and_eq_true, decide_eq_true_eq] at hB
  obtain ⟨⟨h1, h2⟩, h3⟩ := hB
  refine wp_region_noPanic (wp_region_any hm ?_)
  have := wpOrd4_sound (md := .any) (w0 := w.drew) (B := B) (E := E) (B1 := B1) (E1 := E1) (H := H) (H2 := H2) hin h1 (fun c a d v w h => (h : False).elim) ord _ a w.drew h3 ⟨Touch.refl _ _ _, fun _ => rfl, fun _ => Touch.refl _ _ _⟩ h
  rw [h2] at this
  exact wpAny_of_4 _ _ _ _ (by simpa using this)

theorem wpOrd4_nil {T : Act → World → Prop} {a : Act} {w : World} (h : T a w) : wpOrd4 P ops Q w0 B E B1 E1 T [] a w := h
theorem wpOrd4_soft {T : Act → World → Prop} {i : Nat} {r : List (Nat × Nat)} {a : Act} {w : World}
    (h : ∀ K : Act → Prop, (∀ a, wpOrd4 P ops Q w0 B E B1 E1 T r a w → K a) → match ops[i]? with | none => False | some o => if Region.wanted o (yielded ops a.tmps) = true then softT P w0 B E o a K else K (a.put o.dst undef)) : wpOrd4 P ops Q w0 B E B1 E1 T ((i, 1) :: r) a w :=
  h _ fun _ h => h
theorem wpOrd4_pre {T : Act → World → Prop} {i : Nat} {r : List (Nat × Nat)} {a : Act} {w : World}
    (h : ∀ K : Act → Prop, (∀ a, wpOrd4 P ops Q w0 B E B1 E1 T r a w → K a) → match ops[i]? with | none => False | some o => if Region.wanted o (yielded ops a.tmps) = true then preAt P w0 o a K else K (a.put o.dst undef)) : wpOrd4 P ops Q w0 B E B1 E1 T ((i, 2) :: r) a w :=
  h _ fun _ h => h
theorem wpOrd4_late {T : Act → World → Prop} {i : Nat} {r : List (Nat × Nat)} {a : Act} {w : World}
    (h : ∀ K : Act → Prop, (∀ a, wpOrd4 P ops Q w0 B E B1 E1 T r a w → K a) → match ops[i]? with | none => False | some o => if Region.wanted o (yielded ops a.tmps) = true then softT P w0 B1 E1 o a K else K (a.put o.dst undef)) : wpOrd4 P ops Q w0 B E B1 E1 T ((i, 3) :: r) a w :=
  h _ fun _ h => h
theorem wpOrd4_hard {T : Act → World → Prop} {i : Nat} {r : List (Nat × Nat)} {a : Act} {w : World}
    (h : match ops[i]? with | none => False | some o => wpList P ops (only Q fun a' w' => Touch B E w0 w' ∧ wpOrd4 P ops Q w0 B E B1 E1 T r a' w') [o] a w) : wpOrd4 P ops Q w0 B E B1 E1 T ((i, 0) :: r) a w := wpOp_only h
theorem wpOrd4_new {T : Act → World → Prop} {i : Nat} {r : List (Nat × Nat)} {a : Act} {w : World}
    (h : match ops[i]? with | none => False | some o => wpList P ops (only Q fun a' w' => Touch B1 E1 w0 w' ∧ wpOrd4 P ops Q w0 B E B1 E1 T r a' w') [o] a w) : wpOrd4 P ops Q w0 B E B1 E1 T ((i, 4) :: r) a w := wpOp_only h

end
end Go.Proofs.Ytemmnjokojgjaaa
/- The reference's draw of a tune that is seldom not right. Contract of l25Bent. -/
set_option linter.unusedSimpArgs false
set_option linter.unnecessarySimpa false
set_option linter.unusedVariables false
set_option maxRecDepth 100000
namespace Go.Proofs.Ytemmnjokojgjaaa
open Go.RowKit

/-- Tones and tunes that can be drawn, right or not. -/
def smTon (y : Ton) : Prop := (-1 ≤ y.note ∧ y.note ≤ 128) ∧ (0 ≤ y.start ∧ y.start ≤ 20000) ∧ (0 ≤ y.len ∧ y.len ≤ 20000)
structure smT (x : TunD) : Prop where
  name : x.name.size ≤ 20
  len : x.tones.length ≤ 140
  tones : ∀ y ∈ x.tones, smTon y
theorem smT_draw {x : TunD} (h : drawTun x) : smT x := by
  obtain ⟨h1, h2, h3⟩ := h
  have := (validTunB_iff.1 h1).name.len
  refine ⟨by omega, by omega, fun y hy => ?_⟩
  obtain ⟨a1, a2, a3⟩ := h3 y hy
  exact ⟨by omega, by omega, by omega⟩
theorem smT_add {x : TunD} {y : Ton} (h : smT x) (hx : x.tones.length ≤ 139) (hy : smTon y) : smT ⟨x.name, x.tones ++ [y]⟩ := by
  refine ⟨h.name, by simp; omega, fun z hz => ?_⟩
  rcases List.mem_append.1 hz with hz | hz
  · exact h.tones z hz
  · rw [List.mem_singleton.1 hz]; exact hy

/-- The tune at hand, before it is handed back. -/
structure TSt (w0 w W : World) (p n m q : Nat) (cv : Value) (x : TunD) (a : Option Addr) (c : Nat) : Prop where
  sm : smT x
  m0 : n ≤ m
  m1 : m ≤ n + 120
  src : Src w0 W p cv m
  touch : Touch p (p + 1) w W
  row : W.ownsRow (w.heap.size + 1) 92 3 (.slice a x.tones.length c) x.tones.length (x.tones.flatMap Ton.cells)
  at' : ∀ g, (Value.slice a x.tones.length c).ownBlock = some g → g ≠ q
  qw : w.heap.size < q
  pw : p < w.heap.size
  w0w : w0.heap.size ≤ p
  bx : Box W q [.string x.name, .slice a x.tones.length c]
  br : Box W w.heap.size [.string ⟨#[]⟩, .slice none 0 0]
section
variable {w0 w W W' : World} {p n m m' q : Nat} {cv : Value} {x x' : TunD} {a a' : Option Addr} {c c' : Nat}
theorem TSt.draw (h : TSt w0 w W p n m q cv x a c) (hs : Src w0 W' p cv m') (ht : Touch p (p + 1) W W') (hm : n ≤ m') (hm' : m' ≤ n + 120) : TSt w0 w W' p n m' q cv x a c :=
  have h1 := h.pw
  have h2 := h.qw
  ⟨h.sm, hm, hm', hs, h.touch.trans ht, owns_touch h.row ht (by omega), h.at', h.qw, h.pw, h.w0w, h.bx.touch ht (.inr (by omega)), h.br.touch ht (.inr (by omega))⟩
/-- A store into the name. -/
theorem TSt.setName (h : TSt w0 w W p n m q cv x a c) (s : ByteArray) (hs : s.size ≤ 20) : TSt w0 w (W.setCell ⟨q, 0, none⟩ (.string s)) p n m q cv ⟨s, x.tones⟩ a c := by
  have h1 := h.pw
  have h2 := h.qw
  have h3 := h.w0w
  have t : Touch q (q + 1) W (W.setCell ⟨q, 0, none⟩ (.string s)) := (Touch.refl _ _ W).setCell (p := ⟨q, 0, none⟩) (by simp) _
  exact ⟨⟨hs, h.sm.len, h.sm.tones⟩, h.m0, h.m1, h.src.touch t (.inl (by omega)) (by omega), h.touch.setNew (p := ⟨q, 0, none⟩) (by simp only; omega) _, owns_ne h.row h.at' _, h.at', h.qw, h.pw, h.w0w, h.bx.set (j := 0) (.string s) (by simp), h.br.touch t (.inl h2)⟩
/-- A new row of tones, written into the tune. -/
theorem TSt.setRow {r : Option Nat} (h : TSt w0 w W p n m q cv x a c) (hg : W.grownBy W' r) (hr : r = (Value.slice a x.tones.length c).ownBlock ∨ ∀ g, r = some g → W.heap.size ≤ g) (sm : smT ⟨x.name, x'.tones⟩)
    (row : W'.ownsRow (w.heap.size + 1) 92 3 (.slice a' x'.tones.length c') x'.tones.length (x'.tones.flatMap Ton.cells)) (hat : ∀ g, (Value.slice a' x'.tones.length c').ownBlock = some g → g ≠ q) :
    TSt w0 w (W'.setCell ⟨q, 1, none⟩ (.slice a' x'.tones.length c')) p n m q cv ⟨x.name, x'.tones⟩ a' c' ∧ Src w0 W' p cv m ∧ Box W' q [.string x.name, .slice a x.tones.length c] ∧ Box W' w.heap.size [.string ⟨#[]⟩, .slice none 0 0] := by
  have h1 := h.pw
  have h2 := h.qw
  have h3 := h.w0w
  have hz := h.bx.lt
  have hrB : ∀ g, r = some g → w.heap.size + 1 ≤ g ∧ g ≠ q := fun g hg => by
    rcases hr with e | e
    · exact ⟨(h.row.lt g (e.symm.trans hg)).1, h.at' g (e.symm.trans hg)⟩
    · have := e g hg; omega
  have hb : Below (w.heap.size + 1) W W' := (Below.refl _ W).grown hg (by omega) (fun k hk => (hrB k hk).1)
  have s := h.src.step (B := w.heap.size + 1) (by omega) hb
  have bq : Box W' q [.string x.name, .slice a x.tones.length c] := by
    have e := hg.block q hz (fun e => (hrB q e.symm).2 rfl)
    exact ⟨Nat.lt_of_lt_of_le hz hg.size, fun j u hu => (World.cell?_of_block (w := W) e).trans (h.bx.at' j u hu), fun j => by
      have := h.bx.fr j
      unfold World.frozen? at *
      simp only at *
      rw [e]; exact this⟩
  have br := h.br.step hb (by omega)
  have t : Touch q (q + 1) W' (W'.setCell ⟨q, 1, none⟩ (.slice a' x'.tones.length c')) := (Touch.refl _ _ W').setCell (p := ⟨q, 1, none⟩) (by simp) _
  refine ⟨⟨sm, h.m0, h.m1, s.touch t (.inl (by omega)) (by omega), (h.touch.step hb (by omega)).setNew (p := ⟨q, 1, none⟩) (by simp only; omega) _, owns_ne row hat _, hat, h.qw, h.pw, h.w0w, bq.set (j := 1) _ (by simp), br.touch t (.inl h2)⟩, s, bq, br⟩
/-- What bending leaves. -/
def Bent (w0 w : World) (p n : Nat) (cv : Value) (e : Ending) (w' : World) : Prop := ∃ (v' : Value) (x : TunD) (m : Nat), e = .returned v' ∧ OwnTun w.heap.size w'.heap.size w' v' x ∧ smT x ∧ n ≤ m ∧ m ≤ n + 120 ∧ Src w0 w' p cv m ∧ Touch p (p + 1) w w'
theorem bent_of {e e' : Ending} (h : Bent w0 w p n cv e W) (he : e = e') : Bent w0 w p n cv e' W := he ▸ h
theorem TSt.fin (h : TSt w0 w W p n m q cv x a c) (v0 v1 : Value) :
    Bent w0 w p n cv (.returned (.agg #[.string x.name, .slice a x.tones.length c])) ((W.setCell ⟨w.heap.size, 0, none⟩ v0).setCell ⟨w.heap.size, 1, none⟩ v1) := by
  have h1 := h.pw
  have h2 := h.qw
  have h3 := h.w0w
  have t : Touch w.heap.size (w.heap.size + 1) W ((W.setCell ⟨w.heap.size, 0, none⟩ v0).setCell ⟨w.heap.size, 1, none⟩ v1) := ((Touch.refl _ _ W).setCell (p := ⟨_, 0, none⟩) (by simp) _).setCell (p := ⟨_, 1, none⟩) (by simp) _
  refine ⟨_, x, m, rfl, ⟨_, rfl, ((OwnRow.mk' h.row).touch t (.inr (by omega))).wide (by omega) (by simp)⟩, h.sm, h.m0, h.m1, h.src.touch t (.inl (by omega)) (by omega), (h.touch.setNew (p := ⟨w.heap.size, 0, none⟩) (by simp) _).setNew (p := ⟨w.heap.size, 1, none⟩) (by simp) _⟩
end

theorem l01DrawName_any (w0 : World) (p n : Nat) (cv : Value) (bs : List Int) (w : World) (h0 : Byts w0 cv bs) (ok : okByts bs) (h : Src w0 w p cv n) (hn : n ≤ 850000000) :
    Calls Try.prog 95 #[.pointer (some ⟨p, 0, none⟩)] w fun e w' => ∃ (r : ByteArray) (m : Nat), e = .returned (.string r) ∧ r.size ≤ 20 ∧ n ≤ m ∧ m ≤ n + 2 ∧ Src w0 w' p cv m ∧ Touch p (p + 1) w w' := by
  have HS := Lib.hid h
  have hlt := h.lt
  clear h
  have hall : ∀ r ∈ ([⟨#[97]⟩, ⟨#[98]⟩, ⟨#[99]⟩, ⟨#[98, 101, 108, 108]⟩, ⟨#[116, 101, 110, 111, 114, 55]⟩, ⟨#[104, 117, 109]⟩, ⟨#[120, 57]⟩, ⟨#[97, 98, 99, 100, 101, 102, 103, 104, 105, 106]⟩, ⟨#[97, 98, 99, 100, 101, 102, 103, 104, 105, 106, 107]⟩, ⟨#[65]⟩, ⟨#[]⟩, ⟨#[49, 97]⟩, ⟨#[97, 45, 98]⟩] : List ByteArray), r.size ≤ 20 := by decide +kernel
  have SL := Lib.hid (sl_lit w (([⟨#[97]⟩, ⟨#[98]⟩, ⟨#[99]⟩, ⟨#[98, 101, 108, 108]⟩, ⟨#[116, 101, 110, 111, 114, 55]⟩, ⟨#[104, 117, 109]⟩, ⟨#[120, 57]⟩, ⟨#[97, 98, 99, 100, 101, 102, 103, 104, 105, 106]⟩, ⟨#[97, 98, 99, 100, 101, 102, 103, 104, 105, 106, 107]⟩, ⟨#[65]⟩, ⟨#[]⟩, ⟨#[49, 97]⟩, ⟨#[97, 45, 98]⟩] : List ByteArray).map Value.string) 9 13 w.heap.size rfl (by simp [maxLen]))
  have HALL := Lib.hid hall
  clear hall
  go_enter Try.func95, Try.ntmps95
  go_wp2_with fail
  refine (text_any w0 p n cv bs _ [⟨#[97]⟩, ⟨#[98]⟩, ⟨#[99]⟩, ⟨#[98, 101, 108, 108]⟩, ⟨#[116, 101, 110, 111, 114, 55]⟩, ⟨#[104, 117, 109]⟩, ⟨#[120, 57]⟩, ⟨#[97, 98, 99, 100, 101, 102, 103, 104, 105, 106]⟩, ⟨#[97, 98, 99, 100, 101, 102, 103, 104, 105, 106, 107]⟩, ⟨#[65]⟩, ⟨#[]⟩, ⟨#[49, 97]⟩, ⟨#[97, 45, 98]⟩] _ h0 ok (HS.out.mono (belowA _ _)) (by omega) SL.out (by simp) (by simp) (fun w' t => SL.out.touchQ t (.inr (by omega)))).mono ?_
  rintro e w1 ⟨name, m1, rfl, hmem, m10, m11, hs1, ht1⟩
  have HN := Lib.hid (HALL.out _ hmem)
  have HS1 := Lib.hid hs1
  have HT1 := Lib.hid (show Touch p (p + 1) w w1 from ((Touch.refl _ _ _).alloc _).trans ht1)
  clear hmem hs1 ht1
  go_wp2
  go_ret
  exact ⟨name, m1, rfl, HN.out, m10, m11, HS1.out, HT1.out⟩


set_option maxHeartbeats 4000000 in
theorem l25Bent_any (w0 : World) (p n : Nat) (cv : Value) (bs : List Int) (w : World) (h0 : Byts w0 cv bs) (ok : okByts bs) (h : Src w0 w p cv n) (hn : n ≤ 800000000) :
    Calls Try.prog 66 #[.pointer (some ⟨p, 0, none⟩)] w (Bent w0 w p n cv) := by
  have HS := Lib.hid h
  have hlt := h.lt
  have hlow := h.low
  clear h
  go_enter Try.func66, Try.ntmps66
  go_wp2_with fail
  have B0 := Lib.hid (Box.alloc w [.string ⟨#[]⟩, .slice none 0 0] 29 w.heap.size rfl)
  refine (l25Draw_any w0 p n cv bs _ h0 ok (HS.out.mono (belowA _ _)) (by omega)).mono ?_
  rintro e w1 ⟨v', x, m1, rfl, own, hdx, m10, m11, hs1, ht1⟩
  obtain ⟨a, c, rfl⟩ := own.form
  have hx9 : x.tones.length ≤ 139 := by have := hdx.2.1; omega
  have hz1 := ht1.size
  simp at hz1
  obtain ⟨q, hq⟩ : ∃ q, q = w1.heap.size := ⟨_, rfl⟩
  obtain ⟨lv, elv, orow⟩ := id own
  have elv' : Value.slice a x.tones.length c = lv := by simpa using elv
  subst elv'
  have HRB := Lib.hid (show ∀ g, (Value.slice a x.tones.length c).ownBlock = some g → w.heap.size + 1 ≤ g ∧ g < q from fun g hg => ⟨by have := (orow.1.lt g hg).1; simpa using this, by have := orow.2 g hg; omega⟩)
  have hba := belowA w1 (.cells #[.string x.name, .slice a x.tones.length c] 29)
  have HB0 := Lib.hid (show TSt w0 w (w1.alloc (.cells #[.string x.name, .slice a x.tones.length c] 29)) p n m1 q cv x a c from
    ⟨smT_draw hdx, m10, by omega, hs1.mono hba, (((Touch.refl _ _ _).alloc _).trans ht1).alloc _, owns_mono (owns_base orow.1 (by simp)) hba, fun g hg => by have := HRB.out g hg; omega, by omega, hlt, hlow, Box.alloc w1 _ _ q hq.symm, (B0.out.touch ht1 (.inr (by omega))).mono hba⟩)
  clear own hdx hs1 ht1 orow elv hba HS B0
  go_wp2_with fail
  rw [← hq]
  obtain ⟨W, hW⟩ : ∃ W, W = w1.alloc (.cells #[.string x.name, .slice a x.tones.length c] 29) := ⟨_, rfl⟩
  rw [← hW] at HB0 ⊢
  have hzW : q < W.heap.size := HB0.out.bx.lt
  clear hW hq
  refine (pick_any w0 p m1 cv bs 20 W h0 ok HB0.out.src (by omega) (by omega) (by omega)).mono ?_
  rintro e w3 ⟨r, m3, rfl, r0, r1, m30, m31, hs3, ht3⟩
  have HB1 := Lib.hid (HB0.out.draw hs3 ht3 (by omega) (by omega))
  have hz3 : q < w3.heap.size := HB1.out.bx.lt
  have hqw := HB1.out.qw
  obtain ⟨w1, rfl⟩ : ∃ w1, w1 = w3 := ⟨_, rfl⟩
  obtain ⟨m1, rfl⟩ : ∃ m, m = m3 := ⟨_, rfl⟩
  clear HB0 hs3 ht3 hzW
  by_cases e0 : r = 0
  · subst e0
    have HC := HB1
    have y0 := HC.out.bx.at' 0 _ rfl
    have y1 := HC.out.bx.at' 1 _ rfl
    have r0 := HC.out.br.at' 0 _ rfl
    have r1 := HC.out.br.at' 1 _ rfl
    have f0 := HC.out.br.fr 0
    have f1 := HC.out.br.fr 1
    have g0 := HC.out.bx.fr 0
    have g1 := HC.out.bx.fr 1
    have l7 := HC.out.br.lt
    have l8 := HC.out.bx.lt
    go_wp2_with (at_builtin; refine append_one_at rfl _ _ 27 rfl (w.heap.size + 1) 92 _ 3 24 Try.underlying27 info_Tone rfl (by decide) _ x.tones.length _ rfl HC.out.row [.int .i64 5, .int .i64 0, .int .i64 1] rfl (by simp [Value.oneCell']) w1.heap.size rfl rfl (by omega) (by decide) (by omega) ?_)
    intro a7 c7 w7 ho7 hg7 hb7 hat7
    obtain ⟨hF, s7, b7, r7⟩ := HC.out.setRow (x' := ⟨x.name, x.tones ++ [⟨5, 0, 1⟩]⟩) (a' := a7) (c' := c7) hg7 (.inl rfl) (smT_add HC.out.sm hx9 ⟨by simp only; omega, by simp only; omega, by simp only; omega⟩) (by simpa [Ton.cells] using ho7) (fun g hg => by
      simp only [List.length_append, List.length_cons, List.length_nil, Nat.zero_add] at hg
      rcases hat7 with e | e
      · exact HC.out.at' g (e.symm.trans hg)
      · rw [e] at hg; cases hg; omega)
    have HF := Lib.hid hF
    simp only [List.length_append, List.length_cons, List.length_nil, Nat.zero_add] at HF
    clear y0 y1 r0 r1 f0 f1 g0 g1 l7 l8
    have y0 := b7.at' 0 _ rfl
    have y1 := b7.at' 1 _ rfl
    have r0 := r7.at' 0 _ rfl
    have r1 := r7.at' 1 _ rfl
    have f0 := r7.fr 0
    have f1 := r7.fr 1
    have g0 := b7.fr 0
    have g1 := b7.fr 1
    have l7 := r7.lt
    have l8 := b7.lt
    clear ho7 hg7 hb7 hat7 s7 b7 r7 hF HC HB1
    go_wp2
    refine bodyPost_ret (v := .agg #[.string x.name, .slice a7 (x.tones.length + 1) c7]) (by simp [results, Try.results66, go_sem, r0, r1, f0, f1, l7, l8]) rfl (bent_of (HF.out.fin _ _) (by first | rfl | (simp; done)))
  by_cases e1 : r = 1
  · subst e1
    go_wp2_with fail
    have c1 := HB1.out.bx.at' 1 _ rfl
    have l1 := HB1.out.bx.lt
    have n0 : ∀ y, (extT w1.drew p (p + 1) y).cell? ⟨q, 1, none⟩ = some (.slice a x.tones.length c) := fun y => (cell?_extT (w := w1.drew) (by simpa using l1) (.inr (by omega))).trans c1
    refine wp_region_ord4 [(0, 1), (1, 3), (2, 1), (3, 4), (4, 4), (5, 1), (6, 4), (7, 0), (8, 1), (9, 0)] [3, 4, 6, 7, 9] [7, 9] (0) (q + 1) (p) (p + 1) (by omega) (by kernel_rfl) (by kernel_rfl) ?_
    (repeat ((first | with_reducible refine wpOrd4_soft (fun K hK => ?_) | with_reducible refine wpOrd4_pre (fun K hK => ?_) | with_reducible refine wpOrd4_late (fun K hK => ?_)); simp only [List.getElem?_toArray, List.getElem?_cons_zero, List.getElem?_cons_succ]; first | (go_simp; refine hK _ ?_) | (simp only [undef]; go_simp; refine hK _ ?_); clear hK K))
    ((first | with_reducible refine wpOrd4_hard ?_ | with_reducible refine wpOrd4_new ?_); simp only [List.getElem?_toArray, List.getElem?_cons_zero, List.getElem?_cons_succ])
    go_wp2_with fail
    refine And.intro (touch_row (World.grownBy_alloc _ _ _)) ?_
    (repeat ((first | with_reducible refine wpOrd4_soft (fun K hK => ?_) | with_reducible refine wpOrd4_pre (fun K hK => ?_) | with_reducible refine wpOrd4_late (fun K hK => ?_)); simp only [List.getElem?_toArray, List.getElem?_cons_zero, List.getElem?_cons_succ]; first | (go_simp; refine hK _ ?_) | (simp only [undef]; go_simp; refine hK _ ?_); clear hK K))
    ((first | with_reducible refine wpOrd4_hard ?_ | with_reducible refine wpOrd4_new ?_); simp only [List.getElem?_toArray, List.getElem?_cons_zero, List.getElem?_cons_succ])
    go_wp2_with fail
    refine (among_lit w0 p m1 cv bs [-1,0,127,128] 4 w1.heap.size w1.drew h0 ok (HB1.out.src.mono (Q.below ((Q.refl w1).drew) _)) (by omega) rfl rfl (by simp) (by simp)).mono ?_
    rintro e w2 ⟨v, m2, rfl, hv, m20, m21, hs2, ht2⟩
    go_wp2_with fail
    refine And.intro ht2 ?_
    (repeat ((first | with_reducible refine wpOrd4_soft (fun K hK => ?_) | with_reducible refine wpOrd4_pre (fun K hK => ?_) | with_reducible refine wpOrd4_late (fun K hK => ?_)); simp only [List.getElem?_toArray, List.getElem?_cons_zero, List.getElem?_cons_succ]; first | (go_simp; refine hK _ ?_) | (simp only [undef]; go_simp; refine hK _ ?_); clear hK K))
    ((first | with_reducible refine wpOrd4_hard ?_ | with_reducible refine wpOrd4_new ?_); simp only [List.getElem?_toArray, List.getElem?_cons_zero, List.getElem?_cons_succ])
    go_wp2_with fail
    refine And.intro (ht2.alloc _) ?_
    have ht2' : Touch p (p + 1) w1 w2 := ⟨ht2.os, ht2.tape, ht2.output, ht2.size, ht2.block⟩
    have HV := Lib.hid (show smTon ⟨v, 9000, 1⟩ by simp only [List.mem_cons, List.not_mem_nil, or_false] at hv; unfold smTon; simp only; omega)
    have HB2 := Lib.hid (HB1.out.draw hs2 ht2' (by omega) (by omega))
    have HT2 := Lib.hid ht2
    have hz3 : q + 1 ≤ w2.heap.size := by have := ht2'.size; omega
    clear HB1 hs2 hv ht2 ht2' c1 n0 l1
    (repeat ((first | with_reducible refine wpOrd4_soft (fun K hK => ?_) | with_reducible refine wpOrd4_pre (fun K hK => ?_) | with_reducible refine wpOrd4_late (fun K hK => ?_)); simp only [List.getElem?_toArray, List.getElem?_cons_zero, List.getElem?_cons_succ]; first | (go_simp; refine hK _ ?_) | (simp only [undef]; go_simp; refine hK _ ?_); clear hK K))
    ((first | with_reducible refine wpOrd4_hard ?_ | with_reducible refine wpOrd4_new ?_); simp only [List.getElem?_toArray, List.getElem?_cons_zero, List.getElem?_cons_succ])
    refine append_one_at rfl _ _ 27 rfl (w.heap.size + 1) 92 _ 3 24 Try.underlying27 info_Tone rfl (by decide) _ x.tones.length _ rfl HB2.out.row [.int .i64 v, .int .i64 9000, .int .i64 1] rfl (by simp [Value.oneCell']) w2.heap.size rfl rfl (by omega) (by decide) (by omega) ?_
    intro a7 c7 w7 ho7 hg7 hb7 hat7
    obtain ⟨hF, s7, b7, r7⟩ := HB2.out.setRow (x' := ⟨x.name, x.tones ++ [⟨v, 9000, 1⟩]⟩) (a' := a7) (c' := c7) hg7 (.inl rfl) (smT_add HB2.out.sm hx9 HV.out) (by simpa [Ton.cells] using ho7) (fun g hg => by
      simp only [List.length_append, List.length_cons, List.length_nil, Nat.zero_add] at hg
      rcases hat7 with e | e
      · exact HB2.out.at' g (e.symm.trans hg)
      · rw [e] at hg; cases hg; omega)
    have HF := Lib.hid hF
    simp only [List.length_append, List.length_cons, List.length_nil, Nat.zero_add] at HF
    have y0 := b7.at' 0 _ rfl
    have y1 := b7.at' 1 _ rfl
    have r0 := r7.at' 0 _ rfl
    have r1 := r7.at' 1 _ rfl
    have f0 := r7.fr 0
    have f1 := r7.fr 1
    have g0 := b7.fr 0
    have g1 := b7.fr 1
    have l7 := r7.lt
    have l8 := b7.lt
    have HT7 := Lib.hid (show Touch 0 (q + 1) w1.drew w7 from (touch_in HT2.out ⟨Nat.zero_le _, by omega⟩).trans (Touch.of_grown hg7 fun g hg => ⟨Nat.zero_le _, by have := HRB.out g hg; omega⟩))
    clear ho7 hg7 hb7 hat7 s7 b7 r7 HB2 hF
    refine And.intro HT7.out ?_
    (repeat ((first | with_reducible refine wpOrd4_soft (fun K hK => ?_) | with_reducible refine wpOrd4_pre (fun K hK => ?_) | with_reducible refine wpOrd4_late (fun K hK => ?_)); simp only [List.getElem?_toArray, List.getElem?_cons_zero, List.getElem?_cons_succ]; first | (go_simp; refine hK _ ?_) | (simp only [undef]; go_simp; refine hK _ ?_); clear hK K))
    ((first | with_reducible refine wpOrd4_hard ?_ | with_reducible refine wpOrd4_new ?_); simp only [List.getElem?_toArray, List.getElem?_cons_zero, List.getElem?_cons_succ])
    go_wp2_with fail
    refine And.intro (HT7.out.setCell (p := ⟨q, 1, none⟩) (by simp) _) ?_
    (with_reducible refine wpOrd4_nil ?_); refine NoPanic.normal ?_
    go_wp2
    refine bodyPost_ret (v := .agg #[.string x.name, .slice a7 (x.tones.length + 1) c7]) (by simp [results, Try.results66, go_sem, r0, r1, f0, f1, l7, l8]) rfl (bent_of (HF.out.fin _ _) (by first | rfl | (simp; done)))
  by_cases e2 : r = 2
  · subst e2
    go_wp2_with fail
    have c1 := HB1.out.bx.at' 1 _ rfl
    have l1 := HB1.out.bx.lt
    have n0 : ∀ y, (extT w1.drew p (p + 1) y).cell? ⟨q, 1, none⟩ = some (.slice a x.tones.length c) := fun y => (cell?_extT (w := w1.drew) (by simpa using l1) (.inr (by omega))).trans c1
    refine wp_region_ord4 [(0, 1), (1, 3), (2, 1), (3, 4), (4, 4), (5, 1), (6, 4), (7, 0), (8, 1), (9, 0)] [3, 4, 6, 7, 9] [7, 9] (0) (q + 1) (p) (p + 1) (by omega) (by kernel_rfl) (by kernel_rfl) ?_
    (repeat ((first | with_reducible refine wpOrd4_soft (fun K hK => ?_) | with_reducible refine wpOrd4_pre (fun K hK => ?_) | with_reducible refine wpOrd4_late (fun K hK => ?_)); simp only [List.getElem?_toArray, List.getElem?_cons_zero, List.getElem?_cons_succ]; first | (go_simp; refine hK _ ?_) | (simp only [undef]; go_simp; refine hK _ ?_); clear hK K))
    ((first | with_reducible refine wpOrd4_hard ?_ | with_reducible refine wpOrd4_new ?_); simp only [List.getElem?_toArray, List.getElem?_cons_zero, List.getElem?_cons_succ])
    go_wp2_with fail
    refine And.intro (touch_row (World.grownBy_alloc _ _ _)) ?_
    (repeat ((first | with_reducible refine wpOrd4_soft (fun K hK => ?_) | with_reducible refine wpOrd4_pre (fun K hK => ?_) | with_reducible refine wpOrd4_late (fun K hK => ?_)); simp only [List.getElem?_toArray, List.getElem?_cons_zero, List.getElem?_cons_succ]; first | (go_simp; refine hK _ ?_) | (simp only [undef]; go_simp; refine hK _ ?_); clear hK K))
    ((first | with_reducible refine wpOrd4_hard ?_ | with_reducible refine wpOrd4_new ?_); simp only [List.getElem?_toArray, List.getElem?_cons_zero, List.getElem?_cons_succ])
    go_wp2_with fail
    refine (among_lit w0 p m1 cv bs [0,11000,11001] 3 w1.heap.size w1.drew h0 ok (HB1.out.src.mono (Q.below ((Q.refl w1).drew) _)) (by omega) rfl rfl (by simp) (by simp)).mono ?_
    rintro e w2 ⟨v, m2, rfl, hv, m20, m21, hs2, ht2⟩
    go_wp2_with fail
    refine And.intro ht2 ?_
    (repeat ((first | with_reducible refine wpOrd4_soft (fun K hK => ?_) | with_reducible refine wpOrd4_pre (fun K hK => ?_) | with_reducible refine wpOrd4_late (fun K hK => ?_)); simp only [List.getElem?_toArray, List.getElem?_cons_zero, List.getElem?_cons_succ]; first | (go_simp; refine hK _ ?_) | (simp only [undef]; go_simp; refine hK _ ?_); clear hK K))
    ((first | with_reducible refine wpOrd4_hard ?_ | with_reducible refine wpOrd4_new ?_); simp only [List.getElem?_toArray, List.getElem?_cons_zero, List.getElem?_cons_succ])
    go_wp2_with fail
    refine And.intro (ht2.alloc _) ?_
    have ht2' : Touch p (p + 1) w1 w2 := ⟨ht2.os, ht2.tape, ht2.output, ht2.size, ht2.block⟩
    have HV := Lib.hid (show smTon ⟨60, 9000, v⟩ by simp only [List.mem_cons, List.not_mem_nil, or_false] at hv; unfold smTon; simp only; omega)
    have HB2 := Lib.hid (HB1.out.draw hs2 ht2' (by omega) (by omega))
    have HT2 := Lib.hid ht2
    have hz3 : q + 1 ≤ w2.heap.size := by have := ht2'.size; omega
    clear HB1 hs2 hv ht2 ht2' c1 n0 l1
    (repeat ((first | with_reducible refine wpOrd4_soft (fun K hK => ?_) | with_reducible refine wpOrd4_pre (fun K hK => ?_) | with_reducible refine wpOrd4_late (fun K hK => ?_)); simp only [List.getElem?_toArray, List.getElem?_cons_zero, List.getElem?_cons_succ]; first | (go_simp; refine hK _ ?_) | (simp only [undef]; go_simp; refine hK _ ?_); clear hK K))
    ((first | with_reducible refine wpOrd4_hard ?_ | with_reducible refine wpOrd4_new ?_); simp only [List.getElem?_toArray, List.getElem?_cons_zero, List.getElem?_cons_succ])
    refine append_one_at rfl _ _ 27 rfl (w.heap.size + 1) 92 _ 3 24 Try.underlying27 info_Tone rfl (by decide) _ x.tones.length _ rfl HB2.out.row [.int .i64 60, .int .i64 9000, .int .i64 v] rfl (by simp [Value.oneCell']) w2.heap.size rfl rfl (by omega) (by decide) (by omega) ?_
    intro a7 c7 w7 ho7 hg7 hb7 hat7
    obtain ⟨hF, s7, b7, r7⟩ := HB2.out.setRow (x' := ⟨x.name, x.tones ++ [⟨60, 9000, v⟩]⟩) (a' := a7) (c' := c7) hg7 (.inl rfl) (smT_add HB2.out.sm hx9 HV.out) (by simpa [Ton.cells] using ho7) (fun g hg => by
      simp only [List.length_append, List.length_cons, List.length_nil, Nat.zero_add] at hg
      rcases hat7 with e | e
      · exact HB2.out.at' g (e.symm.trans hg)
      · rw [e] at hg; cases hg; omega)
    have HF := Lib.hid hF
    simp only [List.length_append, List.length_cons, List.length_nil, Nat.zero_add] at HF
    have y0 := b7.at' 0 _ rfl
    have y1 := b7.at' 1 _ rfl
    have r0 := r7.at' 0 _ rfl
    have r1 := r7.at' 1 _ rfl
    have f0 := r7.fr 0
    have f1 := r7.fr 1
    have g0 := b7.fr 0
    have g1 := b7.fr 1
    have l7 := r7.lt
    have l8 := b7.lt
    have HT7 := Lib.hid (show Touch 0 (q + 1) w1.drew w7 from (touch_in HT2.out ⟨Nat.zero_le _, by omega⟩).trans (Touch.of_grown hg7 fun g hg => ⟨Nat.zero_le _, by have := HRB.out g hg; omega⟩))
    clear ho7 hg7 hb7 hat7 s7 b7 r7 HB2 hF
    refine And.intro HT7.out ?_
    (repeat ((first | with_reducible refine wpOrd4_soft (fun K hK => ?_) | with_reducible refine wpOrd4_pre (fun K hK => ?_) | with_reducible refine wpOrd4_late (fun K hK => ?_)); simp only [List.getElem?_toArray, List.getElem?_cons_zero, List.getElem?_cons_succ]; first | (go_simp; refine hK _ ?_) | (simp only [undef]; go_simp; refine hK _ ?_); clear hK K))
    ((first | with_reducible refine wpOrd4_hard ?_ | with_reducible refine wpOrd4_new ?_); simp only [List.getElem?_toArray, List.getElem?_cons_zero, List.getElem?_cons_succ])
    go_wp2_with fail
    refine And.intro (HT7.out.setCell (p := ⟨q, 1, none⟩) (by simp) _) ?_
    (with_reducible refine wpOrd4_nil ?_); refine NoPanic.normal ?_
    go_wp2
    refine bodyPost_ret (v := .agg #[.string x.name, .slice a7 (x.tones.length + 1) c7]) (by simp [results, Try.results66, go_sem, r0, r1, f0, f1, l7, l8]) rfl (bent_of (HF.out.fin _ _) (by first | rfl | (simp; done)))
  by_cases e3 : r = 3
  · subst e3
    go_wp2_with fail
    refine (pick_any w0 p m1 cv bs 3 w1 h0 ok HB1.out.src (by omega) (by omega) (by omega)).mono ?_
    rintro e w2 ⟨s, m2, rfl, s0, s1, m20, m21, hs2, ht2⟩
    have HC := Lib.hid (HB1.out.draw hs2 ht2 (by omega) (by omega))
    have wm : IntKind.i64.wrap (127 + s) = 127 + s := IntWalk.i64_in _ (by omega)
    obtain ⟨k, rfl⟩ : ∃ k : Nat, s = (k : Int) := ⟨s.toNat, by omega⟩
    have hz2 : q < w2.heap.size := HC.out.bx.lt
    have y0 := HC.out.bx.at' 0 _ rfl
    have y1 := HC.out.bx.at' 1 _ rfl
    have r0 := HC.out.br.at' 0 _ rfl
    have r1 := HC.out.br.at' 1 _ rfl
    have f0 := HC.out.br.fr 0
    have f1 := HC.out.br.fr 1
    have g0 := HC.out.bx.fr 0
    have g1 := HC.out.bx.fr 1
    have l7 := HC.out.br.lt
    have l8 := HC.out.bx.lt
    have hg0 := World.grownBy_alloc w2 (.cells #[] 92) none
    obtain ⟨hF, _, _, _⟩ := HC.out.setRow (W' := w2.alloc (.cells #[] 92)) (r := none) (x' := ⟨x.name, []⟩) (a' := some ⟨w2.heap.size, 0, none⟩) (c' := 0) hg0 (.inr fun g hg => by cases hg) ⟨HC.out.sm.name, by simp, fun y hy => by cases hy⟩ (by simpa using owns_empty w2 92 3 _ (by omega)) (fun g hg => by have e : w2.heap.size = g := Option.some.inj hg; omega)
    rw [World.setCell_alloc_past _ q 1 _ hz2] at hF
    have HF0 := Lib.hid hF
    simp only [List.length_nil] at HF0
    clear hF hg0 hs2 ht2 HB1
    go_wp2_with fail
    generalize (w2.setCell ⟨q, 1, none⟩ (.slice (some ⟨w2.heap.size, 0, none⟩) 0 0)).alloc (.cells #[] 92) = W3 at HF0 ⊢
    clear y0 y1 r0 r1 f0 f1 g0 g1 l7 l8 HC
    go_loopw [5] (fun i wr => ∃ (j : Nat) (d : List Ton) (a' : Option Addr) (c' : Nat), (j : Int) ≤ 127 + (k : Int) ∧ i = .int .i64 (j : Int) ∧ d.length = j ∧ TSt w0 w wr p n m2 q cv ⟨x.name, d⟩ a' c') (fun i _ => (127 + k) - (intOf i).toNat)
    case atStart => exact ⟨0, [], _, _, by omega, by go_num, rfl, by simpa using HF0.out⟩
    case round =>
      clear HF0
      obtain ⟨j, d, a', c', hj, rfl, hd, hT⟩ := hrel
      have HD := Lib.hid hd
      have HC := Lib.hid hT
      clear hd hT
      have hzr : q < wr.heap.size := HC.out.bx.lt
      have y1 : wr.cell? ⟨q, 1, none⟩ = some (.slice a' j c') := by have := HC.out.bx.at' 1 _ rfl; simpa [HD.out] using this
      have g1 := HC.out.bx.fr 1
      have l8 := HC.out.bx.lt
      by_cases hlt : (j : Int) < 127 + (k : Int)
      · have hw3 : IntKind.i64.wrap (3 * (j : Int)) = 3 * (j : Int) := IntWalk.i64_in _ (by omega)
        have hrow : wr.ownsRow (w.heap.size + 1) 92 3 (.slice a' j c') j (d.flatMap Ton.cells) := by have := HC.out.row; simp only [HD.out] at this; exact this
        have HROW := Lib.hid hrow
        clear hrow
        go_wp2_with (at_builtin; refine append_one_at rfl _ _ 27 rfl (w.heap.size + 1) 92 _ 3 24 Try.underlying27 info_Tone rfl (by decide) _ j _ rfl HROW.out [.int .i64 70, .int .i64 (3 * (j : Int)), .int .i64 2] rfl (by simp [Value.oneCell']) wr.heap.size rfl rfl (by omega) (by decide) (by omega) ?_)
        intro a7 c7 w7 ho7 hg7 hb7 hat7
        obtain ⟨hF, s7, b7, r7⟩ := HC.out.setRow (x' := ⟨x.name, d ++ [⟨70, 3 * (j : Int), 2⟩]⟩) (a' := a7) (c' := c7) hg7 (.inl (by simp only [HD.out])) (smT_add (x := ⟨x.name, d⟩) HC.out.sm (by simp only [HD.out]; omega) ⟨by simp only; omega, by simp only; omega, by simp only; omega⟩) (by simpa [Ton.cells, HD.out] using ho7) (fun g hg => by
          simp only [List.length_append, List.length_cons, List.length_nil, Nat.zero_add, HD.out] at hg
          rcases hat7 with e | e
          · exact HC.out.at' g (by simp only [HD.out]; exact e.symm.trans hg)
          · rw [e] at hg; cases hg; omega)
        have HF := Lib.hid hF
        simp only [List.length_append, List.length_cons, List.length_nil, Nat.zero_add, HD.out] at HF
        have y1 : w7.cell? ⟨q, 1, none⟩ = some (.slice a' j c') := by have := b7.at' 1 _ rfl; simpa [HD.out] using this
        have g1 := b7.fr 1
        have l8 := b7.lt
        clear ho7 hg7 hb7 hat7 s7 b7 r7 hF HC
        go_wp2
        go_roundw
        case rel => exact ⟨j + 1, d ++ [⟨70, 3 * (j : Int), 2⟩], a7, c7, by omega, by go_num, by simp [HD.out], HF.out⟩
        case measure => simp [intOf] <;> omega
      · have hlt' : ¬ (j : Int) < 127 + (k : Int) := hlt
        have HF := HC
        clear y1 g1 l8
        obtain ⟨y0, y1, r0, r1, f0, f1, l7, l8⟩ : wr.cell? ⟨q, 0, none⟩ = some (.string x.name) ∧ wr.cell? ⟨q, 1, none⟩ = some (.slice a' j c') ∧ wr.cell? ⟨w.heap.size, 0, none⟩ = some (.string ⟨#[]⟩) ∧ wr.cell? ⟨w.heap.size, 1, none⟩ = some (.slice none 0 0) ∧ wr.frozen? ⟨w.heap.size, 0, none⟩ = false ∧ wr.frozen? ⟨w.heap.size, 1, none⟩ = false ∧ w.heap.size < wr.heap.size ∧ q < wr.heap.size :=
          ⟨HF.out.bx.at' 0 _ rfl, by have := HF.out.bx.at' 1 _ rfl; simpa [HD.out] using this, HF.out.br.at' 0 _ rfl, HF.out.br.at' 1 _ rfl, HF.out.br.fr 0, HF.out.br.fr 1, HF.out.br.lt, HF.out.bx.lt⟩
        go_wp2
        refine bodyPost_ret (v := .agg #[.string x.name, .slice a' j c']) (by simp [results, Try.results66, go_sem, r0, r1, f0, f1, l7, l8]) rfl (by have := HF.out.fin (.string x.name) (.slice a' j c'); simpa [HD.out] using this)
  by_cases e4 : r = 4
  · subst e4
    go_wp2_with fail
    refine (l01DrawName_any w0 p m1 cv bs w1 h0 ok HB1.out.src (by omega)).mono ?_
    rintro e w2 ⟨s, m2, rfl, hs20, m20, m21, hs2, ht2⟩
    have HC := Lib.hid (HB1.out.draw hs2 ht2 (by omega) (by omega))
    have HF := Lib.hid (HC.out.setName s hs20)
    have y0 := HC.out.bx.at' 0 _ rfl
    have y1 := HC.out.bx.at' 1 _ rfl
    have r0 := HC.out.br.at' 0 _ rfl
    have r1 := HC.out.br.at' 1 _ rfl
    have f0 := HC.out.br.fr 0
    have f1 := HC.out.br.fr 1
    have g0 := HC.out.bx.fr 0
    have g1 := HC.out.bx.fr 1
    have l7 := HC.out.br.lt
    have l8 := HC.out.bx.lt
    clear HB1 hs2 ht2
    go_wp2
    refine bodyPost_ret (v := .agg #[.string s, .slice a x.tones.length c]) (by simp [results, Try.results66, go_sem, r0, r1, f0, f1, l7, l8]) rfl (bent_of (HF.out.fin _ _) (by first | rfl | (simp; done)))
  have d0 : (r == 0) = false := by simpa using e0
  have d1 : (r == 1) = false := by simpa using e1
  have d2 : (r == 2) = false := by simpa using e2
  have d3 : (r == 3) = false := by simpa using e3
  have d4 : (r == 4) = false := by simpa using e4
  have HF := HB1
  clear HB1
  have HC := HF
  have y0 := HC.out.bx.at' 0 _ rfl
  have y1 := HC.out.bx.at' 1 _ rfl
  have r0 := HC.out.br.at' 0 _ rfl
  have r1 := HC.out.br.at' 1 _ rfl
  have f0 := HC.out.br.fr 0
  have f1 := HC.out.br.fr 1
  have g0 := HC.out.bx.fr 0
  have g1 := HC.out.bx.fr 1
  have l7 := HC.out.br.lt
  have l8 := HC.out.bx.lt
  go_wp2
  refine bodyPost_ret (v := .agg #[.string x.name, .slice a x.tones.length c]) (by simp [results, Try.results66, go_sem, r0, r1, f0, f1, l7, l8]) rfl (bent_of (HF.out.fin _ _) (by first | rfl | (simp; done)))

end Go.Proofs.Ytemmnjokojgjaaa
/- Numbers put in their places, sorted, made unique: plain. -/
set_option linter.unusedSimpArgs false
set_option linter.unnecessarySimpa false
set_option linter.unusedVariables false
namespace Go.Proofs.Ytemmnjokojgjaaa
open Go.RowKit

/-- A number put in its place among rising ones, once. -/
def putI : List Int → Int → List Int
  | [], n => [n]
  | x :: r, n => if n ≤ x then (if n < x then n :: x :: r else x :: r) else x :: putI r n
theorem putI_nil (n : Int) : putI [] n = [n] := rfl
theorem putI_drop {xs : List Int} {k : Nat} (h : k < xs.length) (n : Int) : putI (xs.drop k) n = if n ≤ xs[k] then (if n < xs[k] then n :: xs[k] :: xs.drop (k + 1) else xs[k] :: xs.drop (k + 1)) else xs[k] :: putI (xs.drop (k + 1)) n := by
  rw [List.drop_eq_getElem_cons h]; rfl
theorem putI_len : ∀ (xs : List Int) (n : Int), (putI xs n).length ≤ xs.length + 1
  | [], _ => by simp [putI]
  | x :: r, n => by
    have := putI_len r n
    unfold putI; split
    · split <;> simp
    · simp; omega
theorem mem_putI : ∀ (xs : List Int) (n x : Int), x ∈ putI xs n ↔ x = n ∨ x ∈ xs
  | [], n, x => by simp [putI]
  | y :: r, n, x => by
    unfold putI
    split
    · split
      · simp
      · rename_i h1 h2
        have e : n = y := by omega
        subst e; simp
    · simp only [List.mem_cons, mem_putI r n x]
      constructor
      · rintro (h | h | h) <;> simp [h]
      · rintro (h | h | h) <;> simp [h]
def Strict (xs : List Int) : Prop := xs.Pairwise (· < ·)
theorem putI_strict : ∀ (xs : List Int) (n : Int), Strict xs → Strict (putI xs n)
  | [], n, _ => by simp [putI, Strict]
  | y :: r, n, h => by
    have h' := List.pairwise_cons.1 h
    unfold putI
    split
    · split
      · rename_i h1 h2
        refine List.pairwise_cons.2 ⟨fun x hx => ?_, h⟩
        rcases List.mem_cons.1 hx with rfl | hx
        · exact h2
        · have := h'.1 x hx; omega
      · exact h
    · rename_i h1
      refine List.pairwise_cons.2 ⟨fun x hx => ?_, putI_strict r n h'.2⟩
      rcases (mem_putI r n x).1 hx with rfl | hx
      · omega
      · exact h'.1 x hx

theorem strict_ext : ∀ (l1 l2 : List Int), Strict l1 → Strict l2 → (∀ x, x ∈ l1 ↔ x ∈ l2) → l1 = l2
  | [], [], _, _, _ => rfl
  | [], b :: l2, _, _, h => by have := (h b).2 (by simp); simp at this
  | a :: l1, [], _, _, h => by have := (h a).1 (by simp); simp at this
  | a :: l1, b :: l2, h1, h2, h => by
    have g1 := List.pairwise_cons.1 h1
    have g2 := List.pairwise_cons.1 h2
    have e : a = b := by
      rcases List.mem_cons.1 ((h a).1 (by simp)) with e | e
      · exact e
      · rcases List.mem_cons.1 ((h b).2 (by simp)) with e' | e'
        · exact e'.symm
        · have := g1.1 b e'; have := g2.1 a e; omega
    subst e
    rw [strict_ext l1 l2 g1.2 g2.2 fun x => ?_]
    constructor
    · intro hx
      rcases List.mem_cons.1 ((h x).1 (by simp [hx])) with e | e
      · have := g1.1 x hx; omega
      · exact e
    · intro hx
      rcases List.mem_cons.1 ((h x).2 (by simp [hx])) with e | e
      · have := g2.1 x hx; omega
      · exact e

def sortI (zs : List Int) : List Int := zs.mergeSort fun x y => decide (x ≤ y)
theorem sortI_len (zs : List Int) : (sortI zs).length = zs.length := List.length_mergeSort zs
theorem sortI_mem (zs : List Int) (x : Int) : x ∈ sortI zs ↔ x ∈ zs := by simp [sortI]
theorem sortI_perm (zs : List Int) : (sortI zs).Perm zs := List.mergeSort_perm zs _
theorem sortI_le (zs : List Int) : (sortI zs).Pairwise (· ≤ ·) := by
  have := List.pairwise_mergeSort (le := fun x y : Int => decide (x ≤ y)) (by intro a b c h1 h2; simp at *; omega) (by intro a b; simp; omega) zs
  exact this.imp (by intro a b h; simpa using h)

theorem compactUpTo_inv (zs : List Int) (hs : zs.Pairwise (· ≤ ·)) : ∀ m, m ≤ zs.length →
    Strict (Lib.compactUpTo zs.toArray m) ∧ (∀ x ∈ Lib.compactUpTo zs.toArray m, ∃ j, j < m ∧ x = zs.getD j 0) ∧ (∀ j, j < m → zs.getD j 0 ∈ Lib.compactUpTo zs.toArray m)
  | 0, _ => by simp [Lib.compactUpTo, Strict]
  | m + 1, hm => by
    obtain ⟨i1, i2, i3⟩ := compactUpTo_inv zs hs m (by omega)
    have gd : ∀ j, j < zs.length → zs.toArray[j]! = zs.getD j 0 := fun j hj => by simp [hj]
    have mono : ∀ i j, i ≤ j → j < zs.length → zs.getD i 0 ≤ zs.getD j 0 := fun i j hij hj => by
      rcases Nat.eq_or_lt_of_le hij with rfl | hlt
      · exact Int.le_refl _
      · have := (List.pairwise_iff_getElem.1 hs) i j (by omega) hj hlt
        simpa [show i < zs.length by omega, hj] using this
    rw [Lib.compactUpTo_succ]
    by_cases hk : Lib.keeps zs.toArray m = true
    · rw [if_pos hk, gd m (by omega)]
      refine ⟨?_, ?_, ?_⟩
      · refine List.pairwise_append.2 ⟨i1, by simp, fun x hx y hy => ?_⟩
        simp only [List.mem_singleton] at hy
        subst hy
        obtain ⟨j, hj, rfl⟩ := i2 x hx
        have h1 : zs.toArray[m]! ≠ zs.toArray[m - 1]! := by
          simp only [Lib.keeps, decide_eq_true_eq] at hk
          rcases hk with h | h
          · omega
          · exact h
        rw [gd m (by omega), gd (m - 1) (by omega)] at h1
        have h2 := mono j (m - 1) (by omega) (by omega)
        have h3 := mono (m - 1) m (by omega) (by omega)
        omega
      · intro x hx
        rcases List.mem_append.1 hx with hx | hx
        · obtain ⟨j, hj, e⟩ := i2 x hx; exact ⟨j, by omega, e⟩
        · exact ⟨m, by omega, by simpa using hx⟩
      · intro j hj
        by_cases e : j = m
        · subst e; simp
        · exact List.mem_append_left _ (i3 j (by omega))
    · rw [if_neg hk, List.append_nil]
      refine ⟨i1, fun x hx => by obtain ⟨j, hj, e⟩ := i2 x hx; exact ⟨j, by omega, e⟩, fun j hj => ?_⟩
      by_cases e : j = m
      · subst e
        have h1 : j ≠ 0 ∧ zs.toArray[j]! = zs.toArray[j - 1]! := by
          simp only [Lib.keeps, decide_eq_true_eq, not_or, Classical.not_not] at hk
          exact hk
        rw [gd j (by omega), gd (j - 1) (by omega)] at h1
        rw [h1.2]; exact i3 _ (by omega)
      · exact i3 j (by omega)
theorem compact_strict {zs : List Int} (hs : zs.Pairwise (· ≤ ·)) : Strict (Lib.compact zs) := (compactUpTo_inv zs hs zs.length (Nat.le_refl _)).1
theorem compact_mem {zs : List Int} (hs : zs.Pairwise (· ≤ ·)) (x : Int) : x ∈ Lib.compact zs ↔ x ∈ zs := by
  obtain ⟨_, i2, i3⟩ := compactUpTo_inv zs hs zs.length (Nat.le_refl _)
  constructor
  · intro h
    obtain ⟨j, hj, e⟩ := i2 x h
    rw [e]; simp [hj]
  · intro h
    obtain ⟨j, hj, e⟩ := List.getElem_of_mem h
    have := i3 j hj
    simp only [List.getD_eq_getElem?_getD, hj, List.getElem?_eq_getElem, Option.getD_some] at this
    rw [e] at this; exact this

/-- All of some numbers, in order, each once. -/
def notesOfL (ns : List Int) : List Int := ns.foldl putI []
theorem foldl_putI (ns : List Int) : ∀ acc, Strict acc → Strict (ns.foldl putI acc) ∧ ∀ x, x ∈ ns.foldl putI acc ↔ x ∈ acc ∨ x ∈ ns := by
  induction ns with
  | nil => intro acc h; exact ⟨h, by simp⟩
  | cons n r ih =>
    intro acc h
    obtain ⟨h1, h2⟩ := ih (putI acc n) (putI_strict acc n h)
    refine ⟨h1, fun x => ?_⟩
    rw [List.foldl_cons, h2, mem_putI, List.mem_cons]
    constructor
    · rintro ((h | h) | h) <;> simp [h]
    · rintro (h | h | h) <;> simp [h]
theorem notesOfL_strict (ns : List Int) : Strict (notesOfL ns) := (foldl_putI ns [] (by simp [Strict])).1
theorem notesOfL_mem (ns : List Int) (x : Int) : x ∈ notesOfL ns ↔ x ∈ ns := by have := (foldl_putI ns [] (by simp [Strict])).2 x; simpa [notesOfL] using this
theorem notesOfL_eq (ns : List Int) : Lib.compact (sortI ns) = notesOfL ns :=
  strict_ext _ _ (compact_strict (sortI_le ns)) (notesOfL_strict ns) fun x => by rw [compact_mem (sortI_le ns), sortI_mem, notesOfL_mem]
theorem foldl_putI_len (ns : List Int) : ∀ acc, (ns.foldl putI acc).length ≤ acc.length + ns.length := by
  induction ns with
  | nil => intro acc; simp
  | cons n r ih => intro acc; have := ih (putI acc n); have := putI_len acc n; simp; omega
theorem notesOfL_len (ns : List Int) : (notesOfL ns).length ≤ ns.length := by have := foldl_putI_len ns []; simpa [notesOfL] using this

end Go.Proofs.Ytemmnjokojgjaaa
/- Contract of slices.Sort at []int64. -/
set_option linter.unusedSimpArgs false
set_option linter.unnecessarySimpa false
set_option linter.unusedVariables false
set_option maxRecDepth 100000
namespace Go.Proofs.Ytemmnjokojgjaaa
open Go.RowKit

theorem info_int64 : (Try.prog.info? 2).map (fun i => (i.zero, i.size, i.bytes)) = some (some (.int .i64 0), 1, 8) := by kernel_rfl

/-- slices.Sort on a row of the call's own. -/
theorem sortInts_any (v : Value) (base : Nat) (zs : List Int) (w : World) (h : w.ownsRow base 2 1 v zs.length (zs.map (Value.int .i64))) (hs : zs.length ≤ 1000000000) :
    Calls Try.prog 109 #[v] w fun e w' => e = .returned (.tuple #[]) ∧ w'.ownsRow base 2 1 v zs.length ((sortI zs).map (Value.int .i64)) ∧ w.grownBy w' v.ownBlock := by
  rcases h.2 with ⟨rfl, hn⟩ | ⟨g, cap, cur, rfl, hb, hg, h1, h2, h3, h4⟩
  · have hz : zs = [] := List.eq_nil_of_length_eq_zero hn
    subst hz
    have := AnyG.slices_Sort_int_none Try.laysSort none 0 w
    exact this.mono fun e w' ⟨he, hw⟩ => ⟨he, by rw [hw]; exact ⟨by simpa [sortI] using h, World.grownBy.refl w _⟩⟩
  · have hH := Go.holds_of_blockI hg (by rw [Nat.mul_one] at h4; exact h4)
    have hlt := (Array.getElem?_eq_some_iff.1 hg).1
    have := AnyG.slices_Sort_int Try.laysSort g 0 cap zs w hH hlt (by omega)
    refine this.mono fun e w' ⟨he, n, os, hw⟩ => ⟨he, ?_, ?_⟩
    · rw [hw]; exact Go.ownsRow_sortedI (ss := zs) (ts := sortI zs) (sortI_len zs) hb hg h1 h2 h3
    · rw [hw]; exact Go.grownBy_sortedI _

end Go.Proofs.Ytemmnjokojgjaaa
