/- A region that draws its order, walked in one: what only reads ('soft': in every world that is the first one grown), what reads before anything is written ('pre': in the first world alone), and all else. No program in sight. -/
import Derived.Test.YteaijhmgfddjiaaDoorRegion
set_option linter.unusedSimpArgs false
set_option linter.unnecessarySimpa false
set_option linter.unusedVariables false
namespace Go.Proofs.YteaijhmgfddjiaaDoor
open Go.RowKit

section
variable {P : Program} {ops : Array Oper} {md : Region.Mode} {Q : Exit → Act → World → Prop} {w0 : World} {row : Option Nat} {H : List Nat}

/-- The world while the operations of 'listed' have come up. -/
def StG (w0 : World) (row : Option Nat) (H : List Nat) (listed : Array Bool) (w : World) : Prop := w0.grownBy w row ∧ ((∀ j ∈ H, listed.getD j true = false) → w = w0)

def wpAnyG (P : Program) (md : Region.Mode) (ops : Array Oper) (Q : Exit → Act → World → Prop) (w0 : World) (row : Option Nat) (H : List Nat) : Nat → Array Bool → Act → World → Prop
  | 0, listed, a, w => Region.ready md ops listed = [] ∧ Q .normal a w
  | fuel + 1, listed, a, w =>
    (Region.ready md ops listed = [] → Q .normal a w) ∧
    ∀ i ∈ Region.ready md ops listed, wpOp P ops Q i (fun a' w' => StG w0 row H (listed.setIfInBounds i true) w' ∧ wpAnyG P md ops Q w0 row H fuel (listed.setIfInBounds i true) a' w') a w

theorem wpAny_of_G : ∀ (fuel : Nat) (listed : Array Bool) (a : Act) (w : World), wpAnyG P md ops Q w0 row H fuel listed a w → wpAny P md ops Q fuel listed a w
  | 0, _, _, _, h => h
  | fuel + 1, _, _, _, h => ⟨h.1, fun i hi => wpOp_mono (fun a' w' h' => wpAny_of_G fuel _ a' w' h'.2) (h.2 i hi)⟩

theorem getD_set_ne' {L : Array Bool} {i k : Nat} (h : i ≠ k) : (L.setIfInBounds i true).getD k true = L.getD k true := getD_set_ne true h

theorem StG.drop {L : Array Bool} {i j : Nat} {w : World} (hi : i ∉ H) (h : StG w0 row H ((L.setIfInBounds i true).setIfInBounds j true) w) : StG w0 row H (L.setIfInBounds j true) w := by
  refine ⟨h.1, fun hH => h.2 fun k hk => ?_⟩
  have := hH k hk
  by_cases e : j = k
  · subst e
    rw [Array.getD_eq_getD_getElem?, Array.getElem?_setIfInBounds] at this ⊢
    simp at this ⊢
    exact this
  · rw [getD_set_ne' e] at this ⊢
    rw [getD_set_ne' (fun e => hi (by rw [e]; exact hk))]; exact this
theorem StG.add {L : Array Bool} {i : Nat} {w : World} (hi : i ∉ H) (h : StG w0 row H L w) : StG w0 row H (L.setIfInBounds i true) w :=
  ⟨h.1, fun hH => h.2 fun k hk => by have := hH k hk; rwa [getD_set_ne' (fun e => hi (by rw [e]; exact hk))] at this⟩

theorem StG.hard {L : Array Bool} {j : Nat} {w : World} (hj : j ∈ H) (h : w0.grownBy w row) : StG w0 row H (L.setIfInBounds j true) w := by
  refine ⟨h, fun hH => ?_⟩
  have h1 := hH j hj
  rw [Array.getD_eq_getD_getElem?, Array.getElem?_setIfInBounds] at h1
  rcases Nat.lt_or_ge j L.size with h2 | h2
  · simp [h2] at h1
  · simp [Array.getElem?_eq_none h2, Nat.not_lt.2 h2] at h1

/-- 'i' may be taken first. 'C': the worlds in which it may come up. -/
theorem wpAnyG_first {C : World → Prop} {I : Array Bool → Prop} {i : Nat} {oi : Oper} {v : Value} (hi : ops[i]? = some oi) (hsel : ∀ (j : Nat) (o : Oper) cs b, ops[j]? = some o → o.op ≠ .select cs b) (hiH : i ∉ H)
    (hQ : ∀ c a w, Q (.panic c) (a.put oi.dst v) w → Q (.panic c) a w)
    (hC : ∀ L w, I L → L.getD i true = false → StG w0 row H L w → C w)
    (hI : ∀ L j oj, I L → ops[j]? = some oj → (∀ e ∈ oj.after, Region.binds md e = true → e.on ≠ i) → I (L.setIfInBounds j true)) :
    ∀ (fuel : Nat) (listed : Array Bool) (a : Act) (w : World),
      (∀ j oj, ops[j]? = some oj → j ≠ i → listed.getD j true = false → (∀ e ∈ oj.after, Region.binds md e = true → e.on ≠ i) → oi.apart ops oj = true) →
      i ∈ Region.ready md ops listed → I listed → YieldsIf P ops C oi v a → StG w0 row H listed w →
      wpAnyG P md ops Q w0 row H fuel (listed.setIfInBounds i true) (a.put oi.dst v) w → wpAnyG P md ops Q w0 row H (fuel + 1) listed a w := by
  intro fuel
  induction fuel with
  | zero =>
    intro listed a w _ hr hIL hy hS H
    refine ⟨fun h => (by rw [h] at hr; cases hr), fun j hj => ?_⟩
    by_cases hji : j = i
    · subst hji; exact hy.wpOp hi (hC _ _ hIL (mem_ready.1 hr).1 hS) ⟨hS.add hiH, H⟩
    · have := ready_mono hj hji
      rw [H.1] at this
      cases this
  | succ fuel ih =>
    intro listed a w hfree hr hIL hy hS H
    refine ⟨fun h => (by rw [h] at hr; cases hr), fun j hj => ?_⟩
    by_cases hji : j = i
    · subst hji; exact hy.wpOp hi (hC _ _ hIL (mem_ready.1 hr).1 hS) ⟨hS.add hiH, H⟩
    · have h1 := H.2 j (ready_mono hj hji)
      obtain ⟨hjun, oj, hoj, hall⟩ := mem_ready.1 hj
      have hnot : ∀ e ∈ oj.after, Region.binds md e = true → e.on ≠ i := fun e he hb heq => by
        have h1 := hall e he hb
        have h0 := (mem_ready.1 hr).1
        rw [heq] at h1
        rcases Nat.lt_or_ge i listed.size with h' | h'
        · simp [h'] at h0 h1; rw [h0] at h1; cases h1
        · simp [Array.getElem?_eq_none h'] at h1
      have h2 := wpOp_putIf hoj (hfree j oj hoj hji hjun hnot) (fun cs b => hsel i oi cs b hi) (fun cs b => hsel j oj cs b hoj) hQ hy h1
      have hfree' : ∀ k ok, ops[k]? = some ok → k ≠ i → (listed.setIfInBounds j true).getD k true = false →
          (∀ e ∈ ok.after, Region.binds md e = true → e.on ≠ i) → oi.apart ops ok = true := fun k ok hk hki hun hno => by
        refine hfree k ok hk hki ?_ hno
        by_cases hjk : j = k
        · subst hjk; exact hjun
        · rw [getD_set_ne true hjk] at hun; exact hun
      refine wpOp_mono (fun a' w' h3 => ⟨h3.2.1.drop hiH, ih (listed.setIfInBounds j true) a' w' hfree' (ready_mono hr (Ne.symm hji)) (hI _ _ _ hIL hoj hnot) h3.1 (h3.2.1.drop hiH) ?_⟩) h2
      rw [Array.setIfInBounds_comm _ _ hji]
      exact h3.2.2

/-- The operation yields one value in the first world, and leaves it alone. -/
def preAt (P : Program) (w0 : World) (o : Oper) (a : Act) (K : Act → Prop) : Prop :=
  ∃ v, (execOp a.eval o).run P w0 = .ok (.value v) w0 ∧ K (a.put o.dst v)
attribute [go_sem] preAt

/-- The walk in a given order: 0 all else, 1 soft, 2 pre. -/
def wpOrdG (P : Program) (ops : Array Oper) (Q : Exit → Act → World → Prop) (w0 : World) (row : Option Nat) (T : Act → World → Prop) : List (Nat × Nat) → Act → World → Prop
  | [], a, w => T a w
  | (i, 1) :: r, a, w =>
    match ops[i]? with
    | none => False
    | some o => if Region.wanted o (yielded ops a.tmps) = true then softAt P w0 row o a (fun a' => wpOrdG P ops Q w0 row T r a' w) else wpOrdG P ops Q w0 row T r (a.put o.dst undef) w
  | (i, 2) :: r, a, w =>
    match ops[i]? with
    | none => False
    | some o => if Region.wanted o (yielded ops a.tmps) = true then preAt P w0 o a (fun a' => wpOrdG P ops Q w0 row T r a' w) else wpOrdG P ops Q w0 row T r (a.put o.dst undef) w
  | (i, _) :: r, a, w => wpOp P ops Q i (fun a' w' => w0.grownBy w' row ∧ wpOrdG P ops Q w0 row T r a' w') a w

def waitsB (md : Region.Mode) (ops : Array Oper) (i j : Nat) : Bool := match ops[j]? with | some o => o.after.any fun e => Region.binds md e && e.on == i | none => false
def ordGB (md : Region.Mode) (ops : Array Oper) (H : List Nat) : List (Nat × Nat) → Array Bool → Bool
  | [], listed => (Region.ready md ops listed).isEmpty
  | (i, 1) :: r, listed => (Region.ready md ops listed).contains i && Region.free md ops listed i && !H.contains i && ordGB md ops H r (listed.setIfInBounds i true)
  | (i, 2) :: r, listed => (Region.ready md ops listed).contains i && Region.free md ops listed i && !H.contains i && (H.all fun j => !listed.getD j true && waitsB md ops i j) && ordGB md ops H r (listed.setIfInBounds i true)
  | (i, _) :: r, listed => decide (Region.ready md ops listed = [i]) && H.contains i && ordGB md ops H r (listed.setIfInBounds i true)

theorem wpOrdG_sound (hsel : Region.noSelect ops = true) (hQ : ∀ c a d v w, Q (.panic c) (Act.put a d v) w → Q (.panic c) a w) :
    ∀ (l : List (Nat × Nat)) (listed : Array Bool) (a : Act) (w : World), ordGB md ops H l listed = true → StG w0 row H listed w →
      wpOrdG P ops Q w0 row (Q .normal) l a w → wpAnyG P md ops Q w0 row H l.length listed a w
  | [], listed, a, w, hB, hS, h => ⟨by simpa [ordGB] using hB, h⟩
  | (i, 1) :: r, listed, a, w, hB, hS, h => by
    simp only [ordGB, Bool.and_eq_true, Bool.not_eq_true', List.contains_eq_mem, decide_eq_false_iff_not] at hB
    obtain ⟨⟨⟨hr, hf⟩, hiH⟩, hB'⟩ := hB
    simp only [wpOrdG] at h
    split at h
    · exact h.elim
    · rename_i o ho
      have fin : ∀ v, YieldsIf P ops (fun w => w0.grownBy w row) o v a → wpOrdG P ops Q w0 row (Q .normal) r (a.put o.dst v) w → wpAnyG P md ops Q w0 row H (((i, 1) :: r).length) listed a w := fun v hy h2 =>
        wpAnyG_first (C := fun w => w0.grownBy w row) (I := fun _ => True) ho (Region.noSelect_spec hsel) hiH (fun c a w => hQ c a _ _ w) (fun _ _ _ _ h => h.1) (fun _ _ _ _ _ _ => trivial) r.length listed a w (Region.free_spec ho hf) (by simpa using hr) trivial hy hS
          (wpOrdG_sound hsel hQ r _ _ w hB' (hS.add hiH) h2)
      split at h
      · rename_i hw
        obtain ⟨v, h1, h2⟩ := h
        refine fin v (.inl ⟨hw, fun w' hw' => ?_⟩) h2
        obtain ⟨x, rfl⟩ := ext_of_grown hw'
        exact h1 x
      · rename_i hw
        exact fin undef (.inr ⟨by simpa using hw, rfl⟩) h
  | (i, 2) :: r, listed, a, w, hB, hS, h => by
    simp only [ordGB, Bool.and_eq_true, Bool.not_eq_true', List.contains_eq_mem, decide_eq_false_iff_not, List.all_eq_true] at hB
    obtain ⟨⟨⟨⟨hr, hf⟩, hiH⟩, hall⟩, hB'⟩ := hB
    have hun : ∀ j ∈ H, listed.getD j true = false := fun j hj => (hall j hj).1
    have hwt : ∀ j ∈ H, waitsB md ops i j = true := fun j hj => (hall j hj).2
    have ew : w = w0 := hS.2 hun
    simp only [wpOrdG] at h
    split at h
    · exact h.elim
    · rename_i o ho
      have fin : ∀ v, YieldsIf P ops (fun w => w = w0) o v a → wpOrdG P ops Q w0 row (Q .normal) r (a.put o.dst v) w → wpAnyG P md ops Q w0 row H (((i, 2) :: r).length) listed a w := fun v hy h2 =>
        wpAnyG_first (C := fun w => w = w0) (I := fun L => ∀ j ∈ H, L.getD j true = false) ho (Region.noSelect_spec hsel) hiH (fun c a w => hQ c a _ _ w) (fun _ _ hI _ h => h.2 hI) (fun L j oj hI hoj hno k hk => by
            have hne : j ≠ k := fun e => by
              subst e
              have := hwt j hk
              unfold waitsB at this
              rw [hoj] at this
              simp only [Array.any_eq_true', Bool.and_eq_true, beq_iff_eq] at this
              obtain ⟨e, he, hb, hon⟩ := this
              exact hno e he hb hon
            rw [getD_set_ne' hne]; exact hI k hk) r.length listed a w (Region.free_spec ho hf) (by simpa using hr) hun hy hS
          (wpOrdG_sound hsel hQ r _ _ w hB' (hS.add hiH) h2)
      split at h
      · rename_i hw
        obtain ⟨v, h1, h2⟩ := h
        exact fin v (.inl ⟨hw, fun w' hw' => by rw [hw']; exact h1⟩) h2
      · rename_i hw
        exact fin undef (.inr ⟨by simpa using hw, rfl⟩) h
  | (i, 0) :: r, listed, a, w, hB, hS, h => by
    simp only [ordGB, Bool.and_eq_true, decide_eq_true_eq] at hB
    obtain ⟨⟨hr, hiH⟩, hB'⟩ := hB
    refine ⟨(fun h0 => by rw [hr] at h0; cases h0), fun j hj => ?_⟩
    rw [hr] at hj
    obtain rfl : j = i := by simpa using hj
    exact wpOp_mono (fun a' w' h' => ⟨StG.hard (by simpa using hiH) h'.1, wpOrdG_sound hsel hQ r _ a' w' hB' (StG.hard (by simpa using hiH) h'.1) h'.2⟩) h
  | (i, n + 3) :: r, listed, a, w, hB, hS, h => by
    simp only [ordGB, Bool.and_eq_true, decide_eq_true_eq] at hB
    obtain ⟨⟨hr, hiH⟩, hB'⟩ := hB
    refine ⟨(fun h0 => by rw [hr] at h0; cases h0), fun j hj => ?_⟩
    rw [hr] at hj
    obtain rfl : j = i := by simpa using hj
    exact wpOp_mono (fun a' w' h' => ⟨StG.hard (by simpa using hiH) h'.1, wpOrdG_sound hsel hQ r _ a' w' hB' (StG.hard (by simpa using hiH) h'.1) h'.2⟩) h

/-- A region in the order 'ord'. -/
theorem wp_region_ordG {id : Nat} {a : Act} {w : World} {l : List Oper} (ord : List (Nat × Nat)) (H : List Nat) (row : Option Nat) (hm : P.follows .mixedOrders = true)
    (hB : (Region.noSelect l.toArray && decide (ord.length = l.length) && ordGB .any l.toArray H ord (Array.replicate l.length false)) = true)
    (h : wpOrdG P l.toArray (NoPanic Q) w.drew row (NoPanic Q .normal) ord a w.drew) : (Code.region id l.toArray true).wp P Q a w := by
  simp only [Bool.and_eq_true, decide_eq_true_eq] at hB
  obtain ⟨⟨h1, h2⟩, h3⟩ := hB
  refine wp_region_noPanic (wp_region_any hm ?_)
  have := wpOrdG_sound (md := .any) (w0 := w.drew) (row := row) (H := H) h1 (fun c a d v w h => (h : False).elim) ord _ a w.drew h3 ⟨World.grownBy.refl _ _, fun _ => rfl⟩ h
  rw [h2] at this
  exact wpAny_of_G _ _ _ _ (by simpa using this)

theorem wpOrdG_nil {T : Act → World → Prop} {a : Act} {w : World} (h : T a w) : wpOrdG P ops Q w0 row T [] a w := h
theorem wpOrdG_soft {T : Act → World → Prop} {i : Nat} {r : List (Nat × Nat)} {a : Act} {w : World}
    (h : ∀ K : Act → Prop, (∀ a, wpOrdG P ops Q w0 row T r a w → K a) → match ops[i]? with | none => False | some o => if Region.wanted o (yielded ops a.tmps) = true then softAt P w0 row o a K else K (a.put o.dst undef)) : wpOrdG P ops Q w0 row T ((i, 1) :: r) a w :=
  h _ fun _ h => h
theorem wpOrdG_pre {T : Act → World → Prop} {i : Nat} {r : List (Nat × Nat)} {a : Act} {w : World}
    (h : ∀ K : Act → Prop, (∀ a, wpOrdG P ops Q w0 row T r a w → K a) → match ops[i]? with | none => False | some o => if Region.wanted o (yielded ops a.tmps) = true then preAt P w0 o a K else K (a.put o.dst undef)) : wpOrdG P ops Q w0 row T ((i, 2) :: r) a w :=
  h _ fun _ h => h
theorem wpOrdG_hard {T : Act → World → Prop} {i : Nat} {r : List (Nat × Nat)} {a : Act} {w : World}
    (h : match ops[i]? with | none => False | some o => wpList P ops (only Q fun a' w' => w0.grownBy w' row ∧ wpOrdG P ops Q w0 row T r a' w') [o] a w) : wpOrdG P ops Q w0 row T ((i, 0) :: r) a w := by
  simp only [wpOrdG]
  unfold wpOp
  split at h
  · exact h.elim
  rename_i o ho
  simp only [ho]
  simp only [wpList] at h
  split
  · rename_i hw
    rw [if_pos hw] at h
    refine h.imp (fun h => ?_) (fun ⟨h1, h2⟩ => ⟨h1, h2⟩)
    unfold Oper.wp at *
    generalize (execOp a.eval o).run P w = res at *
    cases res with
    | ok n w' =>
      cases n <;> simp only [Oper.upon] at h ⊢ <;> first | exact h | exact Calls.mono h (fun e w'' he => by cases e <;> exact he)
    | halt x w' => cases x <;> simp only [Oper.upon] at h ⊢ <;> exact h
  · rename_i hw
    rw [if_neg hw] at h
    exact h

end
end Go.Proofs.YteaijhmgfddjiaaDoor
