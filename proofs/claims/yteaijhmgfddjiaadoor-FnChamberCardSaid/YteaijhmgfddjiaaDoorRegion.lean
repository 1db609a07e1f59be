/- A region that draws its order: one order that is computed serves every order, where what only reads is stable, and all else comes up alone. No program in sight. -/
import Derived.Test.YteaijhmgfddjiaaDoorMem
import Derived.OrdersHeld
import Derived.Still
import Derived.Deep.RegionHeld3
set_option linter.unusedSimpArgs false
set_option linter.unnecessarySimpa false
set_option linter.unusedVariables false
namespace Go.Proofs.YteaijhmgfddjiaaDoor
open Go.RowKit

/-- w with new blocks and, where row is a block's number, another block in its place. -/
def ext (w : World) (row : Option Nat) (x : Array Obj × Nat × Obj) : World :=
  { w with heap := (match row with | some g => w.heap.setIfInBounds g x.2.2 | none => w.heap) ++ x.1, drawn := x.2.1 }

theorem size_ext (w : World) (row : Option Nat) (x : Array Obj × Nat × Obj) : w.heap.size ≤ (ext w row x).heap.size := by
  cases row <;> simp [ext]

theorem heap_ext {w : World} {row : Option Nat} {x : Array Obj × Nat × Obj} {k : Nat} (h : k < w.heap.size) (hk : some k ≠ row) : (ext w row x).heap[k]? = w.heap[k]? := by
  cases row with
  | none => simp [ext, Array.getElem?_append, h]
  | some g =>
    have : g ≠ k := fun e => hk (by rw [e])
    simp [ext, Array.getElem?_append, h, Array.getElem?_setIfInBounds, this]

theorem grown_ext (w : World) (row : Option Nat) (x : Array Obj × Nat × Obj) : w.grownBy (ext w row x) row :=
  ⟨rfl, rfl, rfl, size_ext w row x, fun k h hk => heap_ext h hk⟩

theorem world_eq {w w' : World} (h1 : w'.heap = w.heap) (h2 : w'.tape = w.tape) (h3 : w'.drawn = w.drawn) (h4 : w'.os = w.os) (h5 : w'.output = w.output) : w' = w := by
  cases w'; cases w; simp only at *; subst h1 h2 h3 h4 h5; rfl

theorem ext_of_grown {w w' : World} {row : Option Nat} (h : w.grownBy w' row) : ∃ x, w' = ext w row x := by
  have key : ∀ (H : Array Obj), H.size = w.heap.size → (∀ k, k < w.heap.size → H[k]? = w'.heap[k]?) → w'.heap = H ++ w'.heap.extract w.heap.size w'.heap.size := by
    intro H hs hk
    apply Array.ext_getElem?
    intro i
    by_cases hi : i < w.heap.size
    · rw [Array.getElem?_append_left (by omega), hk i hi]
    · rw [Array.getElem?_append_right (by omega), hs]
      by_cases h2 : i < w'.heap.size
      · rw [Array.getElem?_extract_of_lt (by omega)]
        simp only [show w.heap.size + (i - w.heap.size) = i by omega]
        exact Array.getElem?_eq_getElem h2
      · rw [Array.getElem?_eq_none (by omega), Array.getElem?_eq_none (by simp; omega)]
  cases row with
  | none =>
    refine ⟨(w'.heap.extract w.heap.size w'.heap.size, w'.drawn, .cells #[] 0 (0, 0)), ?_⟩
    have := key w.heap rfl (fun k hk => (h.block k hk (by simp)).symm)
    have h1 := h.os; have h2 := h.tape; have h3 := h.output
    exact world_eq this h2 rfl h1 h3
  | some g =>
    by_cases hg : g < w.heap.size
    · have hg' : g < w'.heap.size := Nat.lt_of_lt_of_le hg h.size
      refine ⟨(w'.heap.extract w.heap.size w'.heap.size, w'.drawn, w'.heap[g]), ?_⟩
      have := key (w.heap.setIfInBounds g w'.heap[g]) (by simp) (fun k hk => by
        by_cases e : g = k
        · subst e; simp [hg, hg']
        · rw [Array.getElem?_setIfInBounds_ne e]; exact (h.block k hk (by simpa using fun e' => e e'.symm)).symm)
      have h1 := h.os; have h2 := h.tape; have h3 := h.output
      exact world_eq this h2 rfl h1 h3
    · refine ⟨(w'.heap.extract w.heap.size w'.heap.size, w'.drawn, .cells #[] 0 (0, 0)), ?_⟩
      have := key (w.heap.setIfInBounds g (.cells #[] 0 (0, 0))) (by simp) (fun k hk => by
        rw [Array.getElem?_setIfInBounds_ne (by omega)]; exact (h.block k hk (by simpa using by omega)).symm)
      have h1 := h.os; have h2 := h.tape; have h3 := h.output
      exact world_eq this h2 rfl h1 h3

@[go_sem] theorem cell?_ext {w : World} {row : Option Nat} {x : Array Obj × Nat × Obj} {b o : Nat} (h : b < w.heap.size) (hr : some b ≠ row) : (ext w row x).cell? ⟨b, o, none⟩ = w.cell? ⟨b, o, none⟩ :=
  World.cell?_of_block (heap_ext h hr)

section
variable {P : Program} {ops : Array Oper} {md : Region.Mode} {w0 : World} {row : Option Nat}

/-- The operation yields one value in every world that is w0 grown, and leaves that world alone. -/
def softAt (P : Program) (w0 : World) (row : Option Nat) (o : Oper) (a : Act) (K : Act → Prop) : Prop :=
  ∃ v, (∀ x, (execOp a.eval o).run P (ext w0 row x) = .ok (.value v) (ext w0 row x)) ∧ K (a.put o.dst v)

attribute [go_sem] softAt

/-- The walk in a given order: 'true': an operation that only reads. -/
def wpOrd (P : Program) (ops : Array Oper) (Q : Exit → Act → World → Prop) (w0 : World) (row : Option Nat) (T : Act → World → Prop) : List (Nat × Bool) → Act → World → Prop
  | [], a, w => T a w
  | (i, true) :: r, a, w =>
    match ops[i]? with
    | none => False
    | some o => if Region.wanted o (yielded ops a.tmps) = true then softAt P w0 row o a (fun a' => wpOrd P ops Q w0 row T r a' w) else wpOrd P ops Q w0 row T r (a.put o.dst undef) w
  | (i, false) :: r, a, w => wpOp P ops Q i (fun a' w' => w0.grownBy w' row ∧ wpOrd P ops Q w0 row T r a' w') a w

def ordB (md : Region.Mode) (ops : Array Oper) : List (Nat × Bool) → Array Bool → Bool
  | [], listed => (Region.ready md ops listed).isEmpty
  | (i, true) :: r, listed => (Region.ready md ops listed).contains i && Region.free md ops listed i && ordB md ops r (listed.setIfInBounds i true)
  | (i, false) :: r, listed => decide (Region.ready md ops listed = [i]) && ordB md ops r (listed.setIfInBounds i true)

theorem wpOrd_sound {Q : Exit → Act → World → Prop} (hsel : Region.noSelect ops = true) (hQ : ∀ c a d v w, Q (.panic c) (Act.put a d v) w → Q (.panic c) a w) :
    ∀ (l : List (Nat × Bool)) (listed : Array Bool) (a : Act) (w : World), ordB md ops l listed = true → w0.grownBy w row →
      wpOrd P ops Q w0 row (Q .normal) l a w → wpAnyH P md ops Q (fun w => w0.grownBy w row) l.length listed a w
  | [], listed, a, w, hB, hS, h => ⟨by simpa [ordB] using hB, h⟩
  | (i, true) :: r, listed, a, w, hB, hS, h => by
    simp only [ordB, Bool.and_eq_true] at hB
    obtain ⟨⟨hr, hf⟩, hB'⟩ := hB
    simp only [wpOrd] at h
    split at h
    · exact h.elim
    · rename_i o ho
      split at h
      · rename_i hw
        obtain ⟨v, h1, h2⟩ := h
        refine wpAnyH_take ho hsel hf hr (fun c a w => hQ c a _ _ w) (.inl ⟨hw, fun w' hw' => ?_⟩) hS (wpOrd_sound hsel hQ r _ _ w hB' hS h2)
        obtain ⟨x, rfl⟩ := ext_of_grown hw'
        exact h1 x
      · rename_i hw
        exact wpAnyH_take ho hsel hf hr (fun c a w => hQ c a _ _ w) (.inr ⟨by simpa using hw, rfl⟩) hS (wpOrd_sound hsel hQ r _ _ w hB' hS h)
  | (i, false) :: r, listed, a, w, hB, hS, h => by
    simp only [ordB, Bool.and_eq_true, decide_eq_true_eq] at hB
    obtain ⟨hr, hB'⟩ := hB
    refine wpAnyH_all hr (by simp) (fun j hj => ?_)
    have hj' : j = i := by simpa using hj
    subst hj'
    exact wpOp_mono (fun a' w' h' => ⟨h'.1, wpOrd_sound hsel hQ r _ a' w' hB' h'.1 h'.2⟩) h

/-- A region in the order 'ord'. -/
theorem wp_region_ord {id : Nat} {Q : Exit → Act → World → Prop} {a : Act} {w : World} {l : List Oper} (ord : List (Nat × Bool)) (row : Option Nat) (hm : P.follows .mixedOrders = true)
    (hB : (Region.noSelect l.toArray && decide (ord.length = l.length) && ordB .any l.toArray ord (Array.replicate l.length false)) = true)
    (h : wpOrd P l.toArray (NoPanic Q) w row (NoPanic Q .normal) ord a w.drew) : (Code.region id l.toArray true).wp P Q a w := by
  simp only [Bool.and_eq_true, decide_eq_true_eq] at hB
  obtain ⟨⟨h1, h2⟩, h3⟩ := hB
  refine wp_region_noPanic (wp_region_any hm ?_)
  have := wpOrd_sound (md := .any) (w0 := w) (row := row) h1 (fun c a d v w h => (h : False).elim) ord _ a w.drew h3 ⟨rfl, rfl, rfl, Nat.le_refl _, fun _ _ _ => rfl⟩ h
  rw [h2] at this
  exact wpAny_of_held _ _ _ _ (by simpa using this)

theorem wpOrd_nil {Q : Exit → Act → World → Prop} {T : Act → World → Prop} {a : Act} {w : World} (h : T a w) : wpOrd P ops Q w0 row T [] a w := h

/-- What only reads. -/
theorem wpOrd_soft {Q : Exit → Act → World → Prop} {T : Act → World → Prop} {i : Nat} {r : List (Nat × Bool)} {a : Act} {w : World}
    (h : ∀ K : Act → Prop, (∀ a, wpOrd P ops Q w0 row T r a w → K a) → match ops[i]? with | none => False | some o => if Region.wanted o (yielded ops a.tmps) = true then softAt P w0 row o a K else K (a.put o.dst undef)) : wpOrd P ops Q w0 row T ((i, true) :: r) a w :=
  h _ fun _ h => h

/-- The post of one operation alone. -/
def only (Q : Exit → Act → World → Prop) (K : Act → World → Prop) : Exit → Act → World → Prop
  | .normal, a, w => K a w
  | .panic c, a, w => Q (.panic c) a w
  | .outgrown, a, w => Q .outgrown a w
  | _, _, _ => False

/-- All else: one operation, as a list of its own. -/
theorem wpOrd_hard {Q : Exit → Act → World → Prop} {T : Act → World → Prop} {i : Nat} {r : List (Nat × Bool)} {a : Act} {w : World}
    (h : match ops[i]? with | none => False | some o => wpList P ops (only Q fun a' w' => w0.grownBy w' row ∧ wpOrd P ops Q w0 row T r a' w') [o] a w) : wpOrd P ops Q w0 row T ((i, false) :: r) a w := by
  simp only [wpOrd]
  unfold wpOp
  split at h
  · exact h.elim
  rename_i o ho
  simp only [ho]
  simp only [wpList] at h
  split
  · rename_i hw
    rw [if_pos hw] at h
    refine h.imp (fun h => ?_) (fun ⟨h1, h2⟩ => ⟨h1, h2⟩)
    unfold Oper.wp at *
    generalize (execOp a.eval o).run P w = res at *
    cases res with
    | ok n w' =>
      cases n <;> simp only [Oper.upon] at h ⊢ <;> first | exact h | exact Calls.mono h (fun e w'' he => by cases e <;> exact he)
    | halt x w' => cases x <;> simp only [Oper.upon] at h ⊢ <;> exact h
  · rename_i hw
    rw [if_neg hw] at h
    exact h

/-- An operation whose guard says no. -/
theorem wpOrd_skip {Q : Exit → Act → World → Prop} {T : Act → World → Prop} {i : Nat} {r : List (Nat × Bool)} {a : Act} {w : World} (hg : w0.grownBy w row)
    (h : ∀ K : Act → Prop, (∀ a, wpOrd P ops Q w0 row T r a w → K a) → match ops[i]? with | none => False | some o => Region.wanted o (yielded ops a.tmps) = false ∧ K (a.put o.dst undef)) : wpOrd P ops Q w0 row T ((i, false) :: r) a w := by
  have := h _ fun _ h => h
  simp only [wpOrd]
  unfold wpOp
  split at this
  · exact this.elim
  · rename_i o ho
    simp only [ho]
    rw [if_neg (by rw [this.1]; exact Bool.false_ne_true)]
    exact ⟨hg, this.2⟩

theorem soft_no {c : Bool} {A B : Prop} (h : c = false) (hb : B) : if c = true then A else B := by
  subst h; exact hb

end
end Go.Proofs.YteaijhmgfddjiaaDoor
