import Derived.Test.YtenedpboehkmjaaGreatSpZ5
import Derived.Test.YtenedpboehkmjaaGreatSpZ2
import Derived.IntWalk
import Derived.Deep.QuietTactic
import Derived.BigQuiet
import Derived.Laws.Bits64b
/- A region that draws its order, walked in one, where blocks from B up to E may be written: what only reads ('soft': in every world; 'late': until those blocks are written; 'pre': in the first world), and all else. No program in sight. -/
set_option linter.unusedSimpArgs false
set_option linter.unnecessarySimpa false
set_option linter.unusedVariables false
namespace Go.Proofs.YtenedpboehkmjaaGreat
open Go.RowKit

/-- w with new blocks and, from B up to E, other blocks. -/
def extT (w : World) (B E : Nat) (x : Array Obj × Nat × (Nat → Obj)) : World :=
  { w with heap := (w.heap.mapIdx fun i o => if B ≤ i ∧ i < E then x.2.2 i else o) ++ x.1, drawn := x.2.1 }
theorem size_extT (w : World) (B E : Nat) (x : Array Obj × Nat × (Nat → Obj)) : w.heap.size ≤ (extT w B E x).heap.size := by simp [extT]
theorem heap_extT {w : World} {B E : Nat} {x : Array Obj × Nat × (Nat → Obj)} {k : Nat} (h : k < w.heap.size) (hk : k < B ∨ E ≤ k) : (extT w B E x).heap[k]? = w.heap[k]? := by
  have hn : ¬ (B ≤ k ∧ k < E) := by omega
  simp [extT, Array.getElem?_append, h, hn]
theorem touch_extT (w : World) (B E : Nat) (x : Array Obj × Nat × (Nat → Obj)) : Touch B E w (extT w B E x) := ⟨rfl, rfl, rfl, size_extT w B E x, fun k h hk => heap_extT h hk⟩
theorem extT_of_touch {w w' : World} {B E : Nat} (h : Touch B E w w') : ∃ x, w' = extT w B E x := by
  refine ⟨(w'.heap.extract w.heap.size w'.heap.size, w'.drawn, fun i => (w'.heap[i]?).getD (.cells #[] 0 (0, 0))), ?_⟩
  refine world_eq ?_ h.tape rfl h.os h.output
  apply Array.ext_getElem?
  intro i
  unfold extT
  simp only
  by_cases hi : i < w.heap.size
  · rw [Array.getElem?_append_left (by simpa using hi)]
    have hi' : i < w'.heap.size := Nat.lt_of_lt_of_le hi h.size
    simp only [Array.getElem?_mapIdx, Array.getElem?_eq_getElem hi, Option.map_some]
    by_cases hk : B ≤ i ∧ i < E
    · rw [if_pos hk]; simp [hi']
    · rw [if_neg hk, h.block i hi (by omega)]; simp [hi]
  · rw [Array.getElem?_append_right (by simpa using hi)]
    simp only [Array.size_mapIdx]
    by_cases h2 : i < w'.heap.size
    · rw [Array.getElem?_extract_of_lt (by omega)]
      simp only [show w.heap.size + (i - w.heap.size) = i by omega]
      exact Array.getElem?_eq_getElem h2
    · rw [Array.getElem?_eq_none (by omega), Array.getElem?_eq_none (by simp; omega)]
theorem cell?_extT {w : World} {B E : Nat} {x : Array Obj × Nat × (Nat → Obj)} {b o : Nat} (h : b < w.heap.size) (hr : b < B ∨ E ≤ b) : (extT w B E x).cell? ⟨b, o, none⟩ = w.cell? ⟨b, o, none⟩ :=
  World.cell?_of_block (heap_extT h hr)
@[go_sem] theorem cell?_extT_lo {w : World} {B E : Nat} {x : Array Obj × Nat × (Nat → Obj)} {b o : Nat} (h : b < w.heap.size) (hr : b < B) : (extT w B E x).cell? ⟨b, o, none⟩ = w.cell? ⟨b, o, none⟩ := cell?_extT h (.inl hr)
@[go_sem] theorem cell?_extT_hi {w : World} {B E : Nat} {x : Array Obj × Nat × (Nat → Obj)} {b o : Nat} (h : b < w.heap.size) (hr : E ≤ b) : (extT w B E x).cell? ⟨b, o, none⟩ = w.cell? ⟨b, o, none⟩ := cell?_extT h (.inr hr)
@[go_sem] theorem size_drew (w : World) : w.drew.heap.size = w.heap.size := rfl
theorem touch_row {w w' : World} {B E : Nat} (h : w.grownBy w' none) : Touch B E w w' := ⟨h.os, h.tape, h.output, h.size, fun k hk _ => h.block k hk (by simp)⟩

/-- 'append_one_at' in a region that draws: the new block comes ahead of the draw. -/
theorem append_one_atD {P : Program} {w : World} {ops : Array Oper} {rest : List Oper} {o : Oper} {a : Act} {Q : Exit → Act → World → Prop} (hgd : o.guard = none) (s x : Operand) (t : TypeId)
    (ho : o.op = .call { callee := .builtin .append, args := #[s, x], argTypes := #[t, t] })
    (base : Nat) (e : TypeId) (z : Value) (size bytes : Nat) (ht : P.underlying t = some (.slice e)) (hi : (P.info? e).map (fun i => (i.zero, i.size, i.bytes)) = some (some z, size, bytes)) (hzs : z.cells.size = size) (hsz : 0 < size)
    (v : Value) (n : Nat) (xs : List Value) (hs : a.eval s = v) (hown : w.ownsRow base e size v n xs) (news : List Value) (hl : news.length = size) (h1 : ∀ u ∈ news, u.oneCell' = true)
    (H : Nat) (hH : w.heap.size = H) (hx : a.eval x = .slice (some ⟨H, 0, none⟩) 1 1) (hn : n ≤ 1000000000) (hbytes : bytes ≤ 1000) (hbase : base ≤ w.heap.size)
    (h : ∀ a' cap' w', w'.ownsRow base e size (.slice a' (n + 1) cap') (n + 1) (xs ++ news) → w.drew.grownBy w' v.ownBlock → Below base w.drew w' → wpList P ops Q rest (Act.put a o.dst (.slice a' (n + 1) cap')) w') :
    wpList P ops Q (o :: rest) a (w.alloc (.cells news.toArray e)).drew :=
  append_one_at (w := w.drew) hgd s x t ho base e z size bytes ht hi hzs hsz v n xs hs hown news hl h1 H hH hx hn hbytes hbase (fun a' cap' w' ho' hg hb _ => h a' cap' w' ho' hg hb)

section
variable {P : Program} {ops : Array Oper} {md : Region.Mode} {Q : Exit → Act → World → Prop} {w0 : World} {B E : Nat} {H H2 : List Nat}

/-- The world while the operations of 'listed' have come up: H all that is not soft, H2 of them what may write. -/
def St3 (w0 : World) (B E : Nat) (H H2 : List Nat) (listed : Array Bool) (w : World) : Prop :=
  Touch B E w0 w ∧ ((∀ j ∈ H, listed.getD j true = false) → w = w0) ∧ ((∀ j ∈ H2, listed.getD j true = false) → w0.grownBy w none)

def wpAny3 (P : Program) (md : Region.Mode) (ops : Array Oper) (Q : Exit → Act → World → Prop) (w0 : World) (B E : Nat) (H H2 : List Nat) : Nat → Array Bool → Act → World → Prop
  | 0, listed, a, w => Region.ready md ops listed = [] ∧ Q .normal a w
  | fuel + 1, listed, a, w =>
    (Region.ready md ops listed = [] → Q .normal a w) ∧
    ∀ i ∈ Region.ready md ops listed, wpOp P ops Q i (fun a' w' => St3 w0 B E H H2 (listed.setIfInBounds i true) w' ∧ wpAny3 P md ops Q w0 B E H H2 fuel (listed.setIfInBounds i true) a' w') a w

theorem wpAny_of_3 : ∀ (fuel : Nat) (listed : Array Bool) (a : Act) (w : World), wpAny3 P md ops Q w0 B E H H2 fuel listed a w → wpAny P md ops Q fuel listed a w
  | 0, _, _, _, h => h
  | fuel + 1, _, _, _, h => ⟨h.1, fun i hi => wpOp_mono (fun a' w' h' => wpAny_of_3 fuel _ a' w' h'.2) (h.2 i hi)⟩

theorem un_drop {L : Array Bool} {i j : Nat} {H : List Nat} (hi : i ∉ H) (h : ∀ k ∈ H, (L.setIfInBounds j true).getD k true = false) : ∀ k ∈ H, ((L.setIfInBounds i true).setIfInBounds j true).getD k true = false := by
  intro k hk
  have := h k hk
  by_cases e : j = k
  · subst e
    rw [Array.getD_eq_getD_getElem?, Array.getElem?_setIfInBounds] at this ⊢
    simp at this ⊢
    exact this
  · rw [getD_set_ne' e] at this ⊢
    rw [getD_set_ne' (fun e => hi (by rw [e]; exact hk))]; exact this
theorem un_add {L : Array Bool} {i : Nat} {H : List Nat} (hi : i ∉ H) (h : ∀ k ∈ H, (L.setIfInBounds i true).getD k true = false) : ∀ k ∈ H, L.getD k true = false := by
  intro k hk
  have := h k hk
  rwa [getD_set_ne' (fun e => hi (by rw [e]; exact hk))] at this
theorem un_set {L : Array Bool} {i : Nat} {H : List Nat} (hi : i ∉ H) (h : ∀ k ∈ H, L.getD k true = false) : ∀ k ∈ H, (L.setIfInBounds i true).getD k true = false := by
  intro k hk
  rw [getD_set_ne' (fun e => hi (by rw [e]; exact hk))]; exact h k hk
theorem un_no {L : Array Bool} {j : Nat} {H : List Nat} (hj : j ∈ H) (h : ∀ k ∈ H, (L.setIfInBounds j true).getD k true = false) : False := by
  have h1 := h j hj
  rw [Array.getD_eq_getD_getElem?, Array.getElem?_setIfInBounds] at h1
  rcases Nat.lt_or_ge j L.size with h2 | h2
  · simp [h2] at h1
  · simp [Array.getElem?_eq_none h2, Nat.not_lt.2 h2] at h1
theorem St3.drop {L : Array Bool} {i j : Nat} {w : World} (hi : i ∉ H) (hi2 : i ∉ H2) (h : St3 w0 B E H H2 ((L.setIfInBounds i true).setIfInBounds j true) w) : St3 w0 B E H H2 (L.setIfInBounds j true) w :=
  ⟨h.1, fun g => h.2.1 (un_drop hi g), fun g => h.2.2 (un_drop hi2 g)⟩
theorem St3.add {L : Array Bool} {i : Nat} {w : World} (hi : i ∉ H) (hi2 : i ∉ H2) (h : St3 w0 B E H H2 L w) : St3 w0 B E H H2 (L.setIfInBounds i true) w :=
  ⟨h.1, fun g => h.2.1 (un_add hi g), fun g => h.2.2 (un_add hi2 g)⟩
theorem St3.hard {L : Array Bool} {j : Nat} {w : World} (hj : j ∈ H) (hj2 : j ∈ H2) (h : Touch B E w0 w) : St3 w0 B E H H2 (L.setIfInBounds j true) w :=
  ⟨h, fun g => (un_no hj g).elim, fun g => (un_no hj2 g).elim⟩
theorem St3.new {L : Array Bool} {j : Nat} {w : World} (hj : j ∈ H) (h : w0.grownBy w none) : St3 w0 B E H H2 (L.setIfInBounds j true) w :=
  ⟨touch_row h, fun g => (un_no hj g).elim, fun _ => h⟩

/-- 'i' may be taken first. 'C': the worlds in which it may come up. -/
theorem wpAny3_first {C : World → Prop} {I : Array Bool → Prop} {i : Nat} {oi : Oper} {v : Value} (hi : ops[i]? = some oi) (hsel : ∀ (j : Nat) (o : Oper) cs b, ops[j]? = some o → o.op ≠ .select cs b) (hiH : i ∉ H) (hiH2 : i ∉ H2)
    (hQ : ∀ c a w, Q (.panic c) (a.put oi.dst v) w → Q (.panic c) a w)
    (hC : ∀ L w, I L → L.getD i true = false → St3 w0 B E H H2 L w → C w)
    (hI : ∀ L j oj, I L → ops[j]? = some oj → (∀ e ∈ oj.after, Region.binds md e = true → e.on ≠ i) → I (L.setIfInBounds j true)) :
    ∀ (fuel : Nat) (listed : Array Bool) (a : Act) (w : World),
      (∀ j oj, ops[j]? = some oj → j ≠ i → listed.getD j true = false → (∀ e ∈ oj.after, Region.binds md e = true → e.on ≠ i) → oi.apart ops oj = true) →
      i ∈ Region.ready md ops listed → I listed → YieldsIf P ops C oi v a → St3 w0 B E H H2 listed w →
      wpAny3 P md ops Q w0 B E H H2 fuel (listed.setIfInBounds i true) (a.put oi.dst v) w → wpAny3 P md ops Q w0 B E H H2 (fuel + 1) listed a w := by
  intro fuel
  induction fuel with
  | zero =>
    intro listed a w _ hr hIL hy hS HH
    refine ⟨fun h => (by rw [h] at hr; cases hr), fun j hj => ?_⟩
    by_cases hji : j = i
    · subst hji; exact hy.wpOp hi (hC _ _ hIL (mem_ready.1 hr).1 hS) ⟨hS.add hiH hiH2, HH⟩
    · have := ready_mono hj hji
      rw [HH.1] at this
      cases this
  | succ fuel ih =>
    intro listed a w hfree hr hIL hy hS HH
    refine ⟨fun h => (by rw [h] at hr; cases hr), fun j hj => ?_⟩
    by_cases hji : j = i
    · subst hji; exact hy.wpOp hi (hC _ _ hIL (mem_ready.1 hr).1 hS) ⟨hS.add hiH hiH2, HH⟩
    · have h1 := HH.2 j (ready_mono hj hji)
      obtain ⟨hjun, oj, hoj, hall⟩ := mem_ready.1 hj
      have hnot : ∀ e ∈ oj.after, Region.binds md e = true → e.on ≠ i := fun e he hb heq => by
        have h1 := hall e he hb
        have h0 := (mem_ready.1 hr).1
        rw [heq] at h1
        rcases Nat.lt_or_ge i listed.size with h' | h'
        · simp [h'] at h0 h1; rw [h0] at h1; cases h1
        · simp [Array.getElem?_eq_none h'] at h1
      have h2 := wpOp_putIf hoj (hfree j oj hoj hji hjun hnot) (fun cs b => hsel i oi cs b hi) (fun cs b => hsel j oj cs b hoj) hQ hy h1
      have hfree' : ∀ k ok, ops[k]? = some ok → k ≠ i → (listed.setIfInBounds j true).getD k true = false →
          (∀ e ∈ ok.after, Region.binds md e = true → e.on ≠ i) → oi.apart ops ok = true := fun k ok hk hki hun hno => by
        refine hfree k ok hk hki ?_ hno
        by_cases hjk : j = k
        · subst hjk; exact hjun
        · rw [getD_set_ne true hjk] at hun; exact hun
      refine wpOp_mono (fun a' w' h3 => ⟨h3.2.1.drop hiH hiH2, ih (listed.setIfInBounds j true) a' w' hfree' (ready_mono hr (Ne.symm hji)) (hI _ _ _ hIL hoj hnot) h3.1 (h3.2.1.drop hiH hiH2) ?_⟩) h2
      rw [Array.setIfInBounds_comm _ _ hji]
      exact h3.2.2

/-- The operation yields one value in every world in which blocks from B up to E may have been written. -/
def softT (P : Program) (w0 : World) (B E : Nat) (o : Oper) (a : Act) (K : Act → Prop) : Prop :=
  ∃ v, (∀ x, (execOp a.eval o).run P (extT w0 B E x) = .ok (.value v) (extT w0 B E x)) ∧ K (a.put o.dst v)
attribute [go_sem] softT

/-- The walk in a given order: 0 what writes, 1 soft, 2 pre, 3 late, 4 all else. -/
def wpOrd3 (P : Program) (ops : Array Oper) (Q : Exit → Act → World → Prop) (w0 : World) (B E : Nat) (T : Act → World → Prop) : List (Nat × Nat) → Act → World → Prop
  | [], a, w => T a w
  | (i, 1) :: r, a, w =>
    match ops[i]? with
    | none => False
    | some o => if Region.wanted o (yielded ops a.tmps) = true then softT P w0 B E o a (fun a' => wpOrd3 P ops Q w0 B E T r a' w) else wpOrd3 P ops Q w0 B E T r (a.put o.dst undef) w
  | (i, 2) :: r, a, w =>
    match ops[i]? with
    | none => False
    | some o => if Region.wanted o (yielded ops a.tmps) = true then preAt P w0 o a (fun a' => wpOrd3 P ops Q w0 B E T r a' w) else wpOrd3 P ops Q w0 B E T r (a.put o.dst undef) w
  | (i, 3) :: r, a, w =>
    match ops[i]? with
    | none => False
    | some o => if Region.wanted o (yielded ops a.tmps) = true then softAt P w0 none o a (fun a' => wpOrd3 P ops Q w0 B E T r a' w) else wpOrd3 P ops Q w0 B E T r (a.put o.dst undef) w
  | (i, 4) :: r, a, w => wpOp P ops Q i (fun a' w' => w0.grownBy w' none ∧ wpOrd3 P ops Q w0 B E T r a' w') a w
  | (i, _) :: r, a, w => wpOp P ops Q i (fun a' w' => Touch B E w0 w' ∧ wpOrd3 P ops Q w0 B E T r a' w') a w

def ord3B (md : Region.Mode) (ops : Array Oper) (H H2 : List Nat) : List (Nat × Nat) → Array Bool → Bool
  | [], listed => (Region.ready md ops listed).isEmpty
  | (i, 1) :: r, listed => (Region.ready md ops listed).contains i && Region.free md ops listed i && !H.contains i && !H2.contains i && ord3B md ops H H2 r (listed.setIfInBounds i true)
  | (i, 2) :: r, listed => (Region.ready md ops listed).contains i && Region.free md ops listed i && !H.contains i && !H2.contains i && (H.all fun j => !listed.getD j true && waitsB md ops i j) && ord3B md ops H H2 r (listed.setIfInBounds i true)
  | (i, 3) :: r, listed => (Region.ready md ops listed).contains i && Region.free md ops listed i && !H.contains i && !H2.contains i && (H2.all fun j => !listed.getD j true && waitsB md ops i j) && ord3B md ops H H2 r (listed.setIfInBounds i true)
  | (i, 4) :: r, listed => decide (Region.ready md ops listed = [i]) && H.contains i && ord3B md ops H H2 r (listed.setIfInBounds i true)
  | (i, _) :: r, listed => decide (Region.ready md ops listed = [i]) && H.contains i && H2.contains i && ord3B md ops H H2 r (listed.setIfInBounds i true)

theorem waits_ne {i j k : Nat} {oj : Oper} (hoj : ops[j]? = some oj) (hno : ∀ e ∈ oj.after, Region.binds md e = true → e.on ≠ i) (h : waitsB md ops i k = true) : j ≠ k := fun e => by
  subst e
  unfold waitsB at h
  rw [hoj] at h
  simp only [Array.any_eq_true', Bool.and_eq_true, beq_iff_eq] at h
  obtain ⟨e, he, hb, hon⟩ := h
  exact hno e he hb hon

theorem wpOrd3_sound (hsel : Region.noSelect ops = true) (hQ : ∀ c a d v w, Q (.panic c) (Act.put a d v) w → Q (.panic c) a w) :
    ∀ (l : List (Nat × Nat)) (listed : Array Bool) (a : Act) (w : World), ord3B md ops H H2 l listed = true → St3 w0 B E H H2 listed w →
      wpOrd3 P ops Q w0 B E (Q .normal) l a w → wpAny3 P md ops Q w0 B E H H2 l.length listed a w
  | [], listed, a, w, hB, hS, h => ⟨by simpa [ord3B] using hB, h⟩
  | (i, 1) :: r, listed, a, w, hB, hS, h => by
    simp only [ord3B, Bool.and_eq_true, Bool.not_eq_true', List.contains_eq_mem, decide_eq_false_iff_not] at hB
    obtain ⟨⟨⟨⟨hr, hf⟩, hiH⟩, hiH2⟩, hB'⟩ := hB
    simp only [wpOrd3] at h
    split at h
    · exact h.elim
    · rename_i o ho
      have fin : ∀ v, YieldsIf P ops (fun w => Touch B E w0 w) o v a → wpOrd3 P ops Q w0 B E (Q .normal) r (a.put o.dst v) w → wpAny3 P md ops Q w0 B E H H2 (((i, 1) :: r).length) listed a w := fun v hy h2 =>
        wpAny3_first (C := fun w => Touch B E w0 w) (I := fun _ => True) ho (Region.noSelect_spec hsel) hiH hiH2 (fun c a w => hQ c a _ _ w) (fun _ _ _ _ h => h.1) (fun _ _ _ _ _ _ => trivial) r.length listed a w (Region.free_spec ho hf) (by simpa using hr) trivial hy hS
          (wpOrd3_sound hsel hQ r _ _ w hB' (hS.add hiH hiH2) h2)
      split at h
      · rename_i hw
        obtain ⟨v, h1, h2⟩ := h
        refine fin v (.inl ⟨hw, fun w' hw' => ?_⟩) h2
        obtain ⟨x, rfl⟩ := extT_of_touch hw'
        exact h1 x
      · rename_i hw
        exact fin undef (.inr ⟨by simpa using hw, rfl⟩) h
  | (i, 2) :: r, listed, a, w, hB, hS, h => by
    simp only [ord3B, Bool.and_eq_true, Bool.not_eq_true', List.contains_eq_mem, decide_eq_false_iff_not, List.all_eq_true] at hB
    obtain ⟨⟨⟨⟨⟨hr, hf⟩, hiH⟩, hiH2⟩, hall⟩, hB'⟩ := hB
    have hun : ∀ j ∈ H, listed.getD j true = false := fun j hj => (hall j hj).1
    have hwt : ∀ j ∈ H, waitsB md ops i j = true := fun j hj => (hall j hj).2
    simp only [wpOrd3] at h
    split at h
    · exact h.elim
    · rename_i o ho
      have fin : ∀ v, YieldsIf P ops (fun w => w = w0) o v a → wpOrd3 P ops Q w0 B E (Q .normal) r (a.put o.dst v) w → wpAny3 P md ops Q w0 B E H H2 (((i, 2) :: r).length) listed a w := fun v hy h2 =>
        wpAny3_first (C := fun w => w = w0) (I := fun L => ∀ j ∈ H, L.getD j true = false) ho (Region.noSelect_spec hsel) hiH hiH2 (fun c a w => hQ c a _ _ w) (fun _ _ hI _ h => h.2.1 hI) (fun L j oj hI hoj hno k hk => by
            rw [getD_set_ne' (waits_ne hoj hno (hwt k hk))]; exact hI k hk) r.length listed a w (Region.free_spec ho hf) (by simpa using hr) hun hy hS
          (wpOrd3_sound hsel hQ r _ _ w hB' (hS.add hiH hiH2) h2)
      split at h
      · rename_i hw
        obtain ⟨v, h1, h2⟩ := h
        exact fin v (.inl ⟨hw, fun w' hw' => by rw [hw']; exact h1⟩) h2
      · rename_i hw
        exact fin undef (.inr ⟨by simpa using hw, rfl⟩) h
  | (i, 3) :: r, listed, a, w, hB, hS, h => by
    simp only [ord3B, Bool.and_eq_true, Bool.not_eq_true', List.contains_eq_mem, decide_eq_false_iff_not, List.all_eq_true] at hB
    obtain ⟨⟨⟨⟨⟨hr, hf⟩, hiH⟩, hiH2⟩, hall⟩, hB'⟩ := hB
    have hun : ∀ j ∈ H2, listed.getD j true = false := fun j hj => (hall j hj).1
    have hwt : ∀ j ∈ H2, waitsB md ops i j = true := fun j hj => (hall j hj).2
    simp only [wpOrd3] at h
    split at h
    · exact h.elim
    · rename_i o ho
      have fin : ∀ v, YieldsIf P ops (fun w => w0.grownBy w none) o v a → wpOrd3 P ops Q w0 B E (Q .normal) r (a.put o.dst v) w → wpAny3 P md ops Q w0 B E H H2 (((i, 3) :: r).length) listed a w := fun v hy h2 =>
        wpAny3_first (C := fun w => w0.grownBy w none) (I := fun L => ∀ j ∈ H2, L.getD j true = false) ho (Region.noSelect_spec hsel) hiH hiH2 (fun c a w => hQ c a _ _ w) (fun _ _ hI _ h => h.2.2 hI) (fun L j oj hI hoj hno k hk => by
            rw [getD_set_ne' (waits_ne hoj hno (hwt k hk))]; exact hI k hk) r.length listed a w (Region.free_spec ho hf) (by simpa using hr) hun hy hS
          (wpOrd3_sound hsel hQ r _ _ w hB' (hS.add hiH hiH2) h2)
      split at h
      · rename_i hw
        obtain ⟨v, h1, h2⟩ := h
        refine fin v (.inl ⟨hw, fun w' hw' => ?_⟩) h2
        obtain ⟨x, rfl⟩ := ext_of_grown hw'
        exact h1 x
      · rename_i hw
        exact fin undef (.inr ⟨by simpa using hw, rfl⟩) h
  | (i, 4) :: r, listed, a, w, hB, hS, h => by
    simp only [ord3B, Bool.and_eq_true, decide_eq_true_eq] at hB
    obtain ⟨⟨hr, hiH⟩, hB'⟩ := hB
    refine ⟨(fun h0 => by rw [hr] at h0; cases h0), fun j hj => ?_⟩
    rw [hr] at hj
    obtain rfl : j = i := by simpa using hj
    exact wpOp_mono (fun a' w' h' => ⟨St3.new (by simpa using hiH) h'.1, wpOrd3_sound hsel hQ r _ a' w' hB' (St3.new (by simpa using hiH) h'.1) h'.2⟩) h
  | (i, 0) :: r, listed, a, w, hB, hS, h => by
    simp only [ord3B, Bool.and_eq_true, decide_eq_true_eq] at hB
    obtain ⟨⟨⟨hr, hiH⟩, hiH2⟩, hB'⟩ := hB
    refine ⟨(fun h0 => by rw [hr] at h0; cases h0), fun j hj => ?_⟩
    rw [hr] at hj
    obtain rfl : j = i := by simpa using hj
    exact wpOp_mono (fun a' w' h' => ⟨St3.hard (by simpa using hiH) (by simpa using hiH2) h'.1, wpOrd3_sound hsel hQ r _ a' w' hB' (St3.hard (by simpa using hiH) (by simpa using hiH2) h'.1) h'.2⟩) h
  | (i, n + 5) :: r, listed, a, w, hB, hS, h => by
    simp only [ord3B, Bool.and_eq_true, decide_eq_true_eq] at hB
    obtain ⟨⟨⟨hr, hiH⟩, hiH2⟩, hB'⟩ := hB
    refine ⟨(fun h0 => by rw [hr] at h0; cases h0), fun j hj => ?_⟩
    rw [hr] at hj
    obtain rfl : j = i := by simpa using hj
    exact wpOp_mono (fun a' w' h' => ⟨St3.hard (by simpa using hiH) (by simpa using hiH2) h'.1, wpOrd3_sound hsel hQ r _ a' w' hB' (St3.hard (by simpa using hiH) (by simpa using hiH2) h'.1) h'.2⟩) h

/-- A region in the order 'ord'. -/
theorem wp_region_ord3 {id : Nat} {a : Act} {w : World} {l : List Oper} (ord : List (Nat × Nat)) (H H2 : List Nat) (B E : Nat) (hm : P.follows .mixedOrders = true)
    (hB : (Region.noSelect l.toArray && decide (ord.length = l.length) && ord3B .any l.toArray H H2 ord (Array.replicate l.length false)) = true)
    (h : wpOrd3 P l.toArray (NoPanic Q) w.drew B E (NoPanic Q .normal) ord a w.drew) : (Code.region id l.toArray true).wp P Q a w := by
  simp only [Bool.and_eq_true, decide_eq_true_eq] at hB
  obtain ⟨⟨h1, h2⟩, h3⟩ := hB
  refine wp_region_noPanic (wp_region_any hm ?_)
  have := wpOrd3_sound (md := .any) (w0 := w.drew) (B := B) (E := E) (H := H) (H2 := H2) h1 (fun c a d v w h => (h : False).elim) ord _ a w.drew h3 ⟨Touch.refl _ _ _, fun _ => rfl, fun _ => World.grownBy.refl _ _⟩ h
  rw [h2] at this
  exact wpAny_of_3 _ _ _ _ (by simpa using this)

theorem wpOrd3_nil {T : Act → World → Prop} {a : Act} {w : World} (h : T a w) : wpOrd3 P ops Q w0 B E T [] a w := h
theorem wpOrd3_soft {T : Act → World → Prop} {i : Nat} {r : List (Nat × Nat)} {a : Act} {w : World}
    (h : ∀ K : Act → Prop, (∀ a, wpOrd3 P ops Q w0 B E T r a w → K a) → match ops[i]? with | none => False | some o => if Region.wanted o (yielded ops a.tmps) = true then softT P w0 B E o a K else K (a.put o.dst undef)) : wpOrd3 P ops Q w0 B E T ((i, 1) :: r) a w :=
  h _ fun _ h => h
theorem wpOrd3_pre {T : Act → World → Prop} {i : Nat} {r : List (Nat × Nat)} {a : Act} {w : World}
    (h : ∀ K : Act → Prop, (∀ a, wpOrd3 P ops Q w0 B E T r a w → K a) → match ops[i]? with | none => False | some o => if Region.wanted o (yielded ops a.tmps) = true then preAt P w0 o a K else K (a.put o.dst undef)) : wpOrd3 P ops Q w0 B E T ((i, 2) :: r) a w :=
  h _ fun _ h => h
theorem wpOrd3_late {T : Act → World → Prop} {i : Nat} {r : List (Nat × Nat)} {a : Act} {w : World}
    (h : ∀ K : Act → Prop, (∀ a, wpOrd3 P ops Q w0 B E T r a w → K a) → match ops[i]? with | none => False | some o => if Region.wanted o (yielded ops a.tmps) = true then softAt P w0 none o a K else K (a.put o.dst undef)) : wpOrd3 P ops Q w0 B E T ((i, 3) :: r) a w :=
  h _ fun _ h => h
theorem wpOp_only {i : Nat} {K : Act → World → Prop} {a : Act} {w : World} (h : match ops[i]? with | none => False | some o => wpList P ops (only Q K) [o] a w) : wpOp P ops Q i K a w := by
  unfold wpOp
  split at h
  · exact h.elim
  rename_i o ho
  simp only [ho]
  simp only [wpList] at h
  split
  · rename_i hw
    rw [if_pos hw] at h
    refine h.imp (fun h => ?_) (fun ⟨h1, h2⟩ => ⟨h1, h2⟩)
    unfold Oper.wp at *
    generalize (execOp a.eval o).run P w = res at *
    cases res with
    | ok n w' =>
      cases n <;> simp only [Oper.upon] at h ⊢ <;> first | exact h | exact Calls.mono h (fun e w'' he => by cases e <;> exact he)
    | halt x w' => cases x <;> simp only [Oper.upon] at h ⊢ <;> exact h
  · rename_i hw
    rw [if_neg hw] at h
    exact h
theorem wpOrd3_hard {T : Act → World → Prop} {i : Nat} {r : List (Nat × Nat)} {a : Act} {w : World}
    (h : match ops[i]? with | none => False | some o => wpList P ops (only Q fun a' w' => Touch B E w0 w' ∧ wpOrd3 P ops Q w0 B E T r a' w') [o] a w) : wpOrd3 P ops Q w0 B E T ((i, 0) :: r) a w := wpOp_only h
theorem wpOrd3_new {T : Act → World → Prop} {i : Nat} {r : List (Nat × Nat)} {a : Act} {w : World}
    (h : match ops[i]? with | none => False | some o => wpList P ops (only Q fun a' w' => w0.grownBy w' none ∧ wpOrd3 P ops Q w0 B E T r a' w') [o] a w) : wpOrd3 P ops Q w0 B E T ((i, 4) :: r) a w := wpOp_only h

end
end Go.Proofs.YtenedpboehkmjaaGreat
/- The reference's source of choices: contracts of l00From, next, pick, one, among, text. -/
set_option linter.unusedSimpArgs false
set_option linter.unnecessarySimpa false
set_option linter.unusedVariables false
set_option maxRecDepth 100000
namespace Go.Proofs.YtenedpboehkmjaaGreat
open Go.RowKit

/-- The source at block p reads bytes that came in (world w0), and has read n of them. -/
structure Src (w0 w : World) (p : Nat) (cv : Value) (n : Nat) : Prop where
  low : w0.heap.size ≤ p
  lt : p < w.heap.size
  c0 : w.cell? ⟨p, 0, none⟩ = some cv
  c1 : w.cell? ⟨p, 1, none⟩ = some (.int .i64 (n : Int))
  c2 : ∃ s : Int, w.cell? ⟨p, 2, none⟩ = some (.int .u64 s)
  fr : ∀ o, w.frozen? ⟨p, o, none⟩ = false
  below : Below w0.heap.size w0 w
theorem Src.mono {w0 w w' : World} {p n : Nat} {cv : Value} (h : Src w0 w p cv n) (hb : Below w.heap.size w w') : Src w0 w' p cv n :=
  ⟨h.low, Nat.lt_of_lt_of_le h.lt hb.size, cellB hb h.c0, cellB hb h.c1, h.c2.imp fun _ h => cellB hb h, fun o => frozenL hb h.lt (h.fr o), h.below.trans (hb.mono h.below.size)⟩
theorem Src.step {w0 w w' : World} {p n : Nat} {cv : Value} (h : Src w0 w p cv n) {B : Nat} (hB : p < B) (hb : Below B w w') : Src w0 w' p cv n :=
  ⟨h.low, Nat.lt_of_lt_of_le h.lt hb.size, cellL hb hB h.c0, cellL hb hB h.c1, h.c2.imp fun _ h => cellL hb hB h, fun o => frozenL hb hB (h.fr o), h.below.trans ⟨hb.os, hb.tape, hb.output, hb.size, fun k hk => hb.block k (by have := h.low; omega)⟩⟩

theorem wrapU (x : Int) : 0 ≤ IntKind.u64.wrap x ∧ IntKind.u64.wrap x < 18446744073709551616 := by
  simp [IntKind.wrap, IntKind.signed, IntKind.bits]; omega
theorem and_bd {s : Int} (h0 : 0 ≤ s) (h1 : s < 18446744073709551616) : 0 ≤ wrap64 (bits .and .u64 (s / 1099511627776) 255) ∧ wrap64 (bits .and .u64 (s / 1099511627776) 255) ≤ 255 := by
  obtain ⟨n, hn⟩ : ∃ n : Nat, s / 1099511627776 = (n : Int) := ⟨(s / 1099511627776).toNat, by omega⟩
  have hb : n < 18446744073709551616 := by omega
  have e := bits_and_u64_nat n 255 hb (by omega)
  rw [hn, show (255 : Int) = ((255 : Nat) : Int) from rfl, e]
  have := Nat.and_le_right (n := n) (m := 255)
  unfold wrap64
  omega
theorem Src.next {w0 w : World} {p n : Nat} {cv : Value} (h : Src w0 w p cv n) (a b : Nat) (s : Int) :
    Src w0 ((((w.drewN a).setCell ⟨p, 1, none⟩ (.int .i64 ((n : Int) + 1))).setCell ⟨p, 2, none⟩ (.int .u64 s)).drewN b) p cv (n + 1) ∧ Touch p (p + 1) w ((((w.drewN a).setCell ⟨p, 1, none⟩ (.int .i64 ((n : Int) + 1))).setCell ⟨p, 2, none⟩ (.int .u64 s)).drewN b) := by
  obtain ⟨low, lt, c0, c1, ⟨sd, c2⟩, fr, below⟩ := h
  have f1 := fr 1
  have f2 := fr 2
  have hT : Touch p (p + 1) w ((((w.drewN a).setCell ⟨p, 1, none⟩ (.int .i64 ((n : Int) + 1))).setCell ⟨p, 2, none⟩ (.int .u64 s)).drewN b) :=
    ((((Touch.refl p (p + 1) w).drewN a).setCell (by simp) _).setCell (by simp) _).drewN b
  refine ⟨⟨low, Nat.lt_of_lt_of_le lt hT.size, ?_, ?_, ⟨s, ?_⟩, fun o => ?_, hT.below below low below.size⟩, hT⟩
  · simp [go_sem, c0, lt, f1, f2]
  · simp [go_sem, c1, lt, f1, f2]
  · simp [go_sem, c2, lt, f1, f2]
  · have := fr o
    simp [go_sem, lt, f1, f2, this]

/-- What a choice below k leaves. -/
def Picked (w0 : World) (p n : Nat) (cv : Value) (k : Int) (w : World) (e : Ending) (w' : World) : Prop :=
  ∃ (r : Int) (m : Nat), e = .returned (.int .i64 r) ∧ 0 ≤ r ∧ r < k ∧ n ≤ m ∧ m ≤ n + 2 ∧ Src w0 w' p cv m ∧ Touch p (p + 1) w w'

/-- v reads as the texts ss. -/
def Strs (w : World) (v : Value) (ss : List ByteArray) : Prop := Sl w v ss.length (ss.map Value.string)

theorem Sl.touchQ {w w' : World} {q m c B E : Nat} {cs : List Value} (h : Sl w (.slice (some ⟨q, 0, none⟩) m c) m cs) (t : Touch B E w w') (hq : q < B ∨ E ≤ q) : Sl w' (.slice (some ⟨q, 0, none⟩) m c) m cs := by
  obtain ⟨a, cap, e, h1, h2, h3⟩ := h
  cases e
  refine ⟨_, _, rfl, h1, h2, fun j u hu => ?_⟩
  obtain ⟨b, off, e, hc⟩ := h3 j u hu
  cases e
  exact ⟨_, _, rfl, cellT t hc hq⟩
theorem owns_touch {w w' : World} {base : Nat} {e : TypeId} {size n : Nat} {v : Value} {cs : List Value} {B E : Nat} (h : w.ownsRow base e size v n cs) (t : Touch B E w w') (hE : E ≤ base) : w'.ownsRow base e size v n cs :=
  ((OwnRow.mk' h).touch t (.inr hE)).1
theorem Src.touch {w0 w w' : World} {p n : Nat} {cv : Value} (h : Src w0 w p cv n) {B E : Nat} (t : Touch B E w w') (hp : p < B ∨ E ≤ p) (hB : w0.heap.size ≤ B) : Src w0 w' p cv n := by
  refine ⟨h.low, Nat.lt_of_lt_of_le h.lt t.size, cellT t h.c0 hp, cellT t h.c1 hp, h.c2.imp fun _ h => cellT t h hp, fun o => ?_, t.below h.below hB h.below.size⟩
  have := t.block p h.lt hp
  have := h.fr o
  unfold World.frozen? at *
  simp only at *
  rw [t.block p h.lt hp]; exact this
theorem froz_touch {B E : Nat} {w w' : World} (h : Touch B E w w') {b o : Nat} {v : Bool} (hp : b < w.heap.size) (ho : b < B ∨ E ≤ b) (hc : w.frozen? ⟨b, o, none⟩ = v) : w'.frozen? ⟨b, o, none⟩ = v := by
  have := h.block b hp ho
  unfold World.frozen? at *
  simp only at *
  rw [this]; exact hc

end Go.Proofs.YtenedpboehkmjaaGreat
/- A block that holds the cells cs, none frozen: facts carried in one word. No program in sight. -/
set_option linter.unusedSimpArgs false
set_option linter.unnecessarySimpa false
set_option linter.unusedVariables false
namespace Go.Proofs.YtenedpboehkmjaaGreat
open Go.RowKit

structure Box (w : World) (q : Nat) (cs : List Value) : Prop where
  lt : q < w.heap.size
  at' : ∀ j u, cs[j]? = some u → w.cell? ⟨q, j, none⟩ = some u
  fr : ∀ j, w.frozen? ⟨q, j, none⟩ = false
theorem Box.touch {w w' : World} {q B E : Nat} {cs : List Value} (h : Box w q cs) (t : Touch B E w w') (hq : q < B ∨ E ≤ q) : Box w' q cs :=
  ⟨Nat.lt_of_lt_of_le h.lt t.size, fun j u hu => cellT t (h.at' j u hu) hq, fun j => froz_touch t h.lt hq (h.fr j)⟩
theorem Box.step {w w' : World} {q K : Nat} {cs : List Value} (h : Box w q cs) (t : Below K w w') (hq : q < K) : Box w' q cs :=
  ⟨Nat.lt_of_lt_of_le h.lt t.size, fun j u hu => cellL t hq (h.at' j u hu), fun j => frozenL t hq (h.fr j)⟩
theorem Box.mono {w w' : World} {q : Nat} {cs : List Value} (h : Box w q cs) (t : Below w.heap.size w w') : Box w' q cs := h.step t h.lt
theorem Box.alloc (w : World) (cs : List Value) (e : TypeId) (q : Nat) (hq : w.heap.size = q) : Box (w.alloc (.cells cs.toArray e)) q cs := by
  subst hq
  refine ⟨by simp, fun j u hu => ?_, fun j => by simp [go_sem]⟩
  rw [cell_of_row _ w.heap.size j cs.toArray e (0, 0) (heap_alloc_new w _)]
  simpa using hu
theorem Box.set {w : World} {q j : Nat} {cs : List Value} (h : Box w q cs) (u : Value) (hj : j < cs.length) : Box (w.setCell ⟨q, j, none⟩ u) q (cs.set j u) := by
  obtain ⟨lt, at', fr⟩ := h
  have c0 := at' j cs[j] (by simp [hj])
  have f0 := fr j
  refine ⟨by simpa [World.setCell] using lt, fun i v hv => ?_, fun i => ?_⟩
  · by_cases e : i = j
    · subst e
      rw [List.getElem?_set_self hj] at hv
      cases hv
      simp [go_sem, c0, f0, lt]
    · rw [List.getElem?_set_ne (fun e' => e e'.symm)] at hv
      have := at' i v hv
      simp [go_sem, this, c0, f0, lt, e]
  · have := fr i
    simp [go_sem, lt, f0, this]

end Go.Proofs.YtenedpboehkmjaaGreat
