/- A region that draws its order in which one variable is made at no fixed time, between the calls: walked once. No program in sight. -/
import Derived.Test.YtfnbjegbaobpnaaReg3
set_option linter.unusedSimpArgs false
set_option linter.unnecessarySimpa false
set_option linter.unusedVariables false
namespace Go.Proofs.Ytfnbjegbaobpnaa
open Go.RowKit

/-- u points to the variable (of block 'obj'), or it is not made yet; it lies in none of the ranges of L. -/
def Fl (w0 : World) (obj : Obj) (L : List (Nat × Nat)) (pd : Bool) (u : Value) (w : World) : Prop :=
  (pd = true ∧ w0.heap.size ≤ w.heap.size ∧ ∀ q ∈ L, q.2 ≤ w.heap.size) ∨
  (pd = false ∧ ∃ b, u = .pointer (some ⟨b, 0, none⟩) ∧ w0.heap.size ≤ b ∧ b < w.heap.size ∧ w.heap[b]? = some obj ∧ ∀ q ∈ L, b < q.1 ∨ q.2 ≤ b)

theorem Fl.start (w0 : World) (obj : Obj) (u : Value) : Fl w0 obj [] true u w0.drew := .inl ⟨rfl, Nat.le_refl _, fun q hq => by cases hq⟩
theorem grown_draw (w : World) : w.grownBy w.drew none := ⟨rfl, rfl, rfl, Nat.le_refl _, fun _ _ _ => rfl⟩
theorem Fl.call {w0 w w' : World} {obj : Obj} {L : List (Nat × Nat)} {pd : Bool} {u : Value} (h : Fl w0 obj L pd u w) (hb : Below w.heap.size w w') : Fl w0 obj ((w.heap.size, w'.heap.size) :: L) pd u w' := by
  have hs := hb.size
  rcases h with ⟨h1, h2, h3⟩ | ⟨h1, b, h2, h3, h4, h5, h6⟩
  · refine .inl ⟨h1, by omega, fun q hq => ?_⟩
    rcases List.mem_cons.1 hq with rfl | hq
    · exact Nat.le_refl _
    · have := h3 q hq; omega
  · refine .inr ⟨h1, b, h2, h3, by omega, (hb.block b h4).trans h5, fun q hq => ?_⟩
    rcases List.mem_cons.1 hq with rfl | hq
    · exact .inl h4
    · exact h6 q hq

section
variable {P : Program} {ops : Array Oper} {md : Region.Mode} {Q : Exit → Act → World → Prop} {w0 : World} {j : Nat}

/-- some false: all else, some true: soft, none: the variable must be there now. -/
def wpOrdF (P : Program) (ops : Array Oper) (Q : Exit → Act → World → Prop) (w0 : World) (j : Nat) (T : Act → World → Prop) : List (Nat × Option Bool) → Bool → Act → World → Prop
  | [], pd, a, w => pd = false ∧ T a w
  | (i, some true) :: r, pd, a, w =>
    match ops[i]? with
    | none => False
    | some o => if Region.wanted o (yielded ops a.tmps) = true then softAt P w0 none o a (fun a' => wpOrdF P ops Q w0 j T r pd a' w) else wpOrdF P ops Q w0 j T r pd (a.put o.dst undef) w
  | (_, none) :: r, pd, a, w => (pd = true → wpOp P ops Q j (fun a' w' => w0.grownBy w' none ∧ wpOrdF P ops Q w0 j T r false a' w') a w) ∧ (pd = false → wpOrdF P ops Q w0 j T r false a w)
  | (i, some false) :: r, pd, a, w =>
    wpOp P ops Q i (fun a' w' => w0.grownBy w' none ∧ wpOrdF P ops Q w0 j T r pd a' w') a w ∧
    (pd = true → wpOp P ops Q j (fun a1 w1 => w0.grownBy w1 none ∧ wpOp P ops Q i (fun a' w' => w0.grownBy w' none ∧ wpOrdF P ops Q w0 j T r false a' w') a1 w1) a w)

def lenF : List (Nat × Option Bool) → Nat
  | [] => 0
  | (_, none) :: r => lenF r
  | (_, some _) :: r => lenF r + 1

/-- 'L': what has come up, without j. -/
def ordFB (md : Region.Mode) (ops : Array Oper) (j : Nat) : List (Nat × Option Bool) → Bool → Array Bool → Bool
  | [], fin, L => fin && (Region.ready md ops (L.setIfInBounds j true)).isEmpty
  | (i, some true) :: r, fin, L => (decide (i ≠ j)) && (Region.ready md ops (L.setIfInBounds j true)).contains i && Region.free md ops (L.setIfInBounds j true) i && (fin || ((Region.ready md ops L).contains i && Region.free md ops L i)) && ordFB md ops j r fin (L.setIfInBounds i true)
  | (_, none) :: r, fin, L => !fin && decide (Region.ready md ops L = [j]) && ordFB md ops j r true L
  | (i, some false) :: r, fin, L => (decide (i ≠ j)) && decide (Region.ready md ops (L.setIfInBounds j true) = [i]) && (fin || (!(Region.ready md ops L).isEmpty && (Region.ready md ops L).all fun k => k == i || k == j)) && ordFB md ops j r fin (L.setIfInBounds i true)

theorem wpAnyH_end {S : World → Prop} {listed : Array Bool} {a : Act} {w : World} (hr : Region.ready md ops listed = []) (h : Q .normal a w) : ∀ fuel, wpAnyH P md ops Q S fuel listed a w
  | 0 => ⟨hr, h⟩
  | fuel + 1 => ⟨fun _ => h, fun i hi => by rw [hr] at hi; cases hi⟩

def fcnt (pd : Bool) (n : Nat) : Nat := if pd = true then n + 1 else n
def flist (pd : Bool) (j : Nat) (L : Array Bool) : Array Bool := if pd = true then L else L.setIfInBounds j true

theorem wpOrdF_sound (hsel : Region.noSelect ops = true) (hQ : ∀ c a d v w, Q (.panic c) (Act.put a d v) w → Q (.panic c) a w) :
    ∀ (l : List (Nat × Option Bool)) (fin : Bool) (L : Array Bool) (pd : Bool) (a : Act) (w : World) (fuel : Nat), ordFB md ops j l fin L = true → (fin = true → pd = false) → fcnt pd (lenF l) ≤ fuel → w0.grownBy w none →
      wpOrdF P ops Q w0 j (Q .normal) l pd a w → wpAnyH P md ops Q (fun w => w0.grownBy w none) fuel (flist pd j L) a w := by
  intro l
  induction l with
  | nil =>
    intro fin L pd a w fuel hB hfin hn hg h
    simp only [ordFB, Bool.and_eq_true] at hB
    obtain ⟨rfl, h⟩ := h
    exact wpAnyH_end (by simpa [flist] using hB.2) h fuel
  | cons x r ih =>
    obtain ⟨i, m⟩ := x
    intro fin L pd a w fuel hB hfin hn hg h
    rcases m with _ | m
    · skip
      simp only [ordFB, Bool.and_eq_true, decide_eq_true_eq] at hB
      obtain ⟨⟨_, hr⟩, hB'⟩ := hB
      simp only [wpOrdF] at h
      cases pd with
      | false => exact ih true L false a w fuel hB' (fun _ => rfl) (by simpa [fcnt, lenF] using hn) hg (h.2 rfl)
      | true =>
        obtain ⟨f, rfl⟩ : ∃ f, fuel = f + 1 := by
          cases fuel with
          | zero => simp [fcnt, lenF] at hn
          | succ f => exact ⟨f, rfl⟩
        refine wpAnyH_all (show Region.ready md ops (flist true j L) = [j] from hr) (by simp) (fun k hk => ?_)
        obtain rfl : k = j := by simpa using hk
        exact wpOp_mono (fun a' w' h' => ⟨h'.1, ih true L false a' w' f hB' (fun _ => rfl) (by simp [fcnt, lenF] at hn ⊢; omega) h'.1 h'.2⟩) (h.1 rfl)
    cases m with
    | true =>
      simp only [ordFB, Bool.and_eq_true, Bool.or_eq_true, decide_eq_true_eq] at hB
      obtain ⟨⟨⟨⟨hij, hr⟩, hf⟩, hor⟩, hB'⟩ := hB
      have hr2 : (Region.ready md ops (flist pd j L)).contains i = true ∧ Region.free md ops (flist pd j L) i = true := by
        cases pd with
        | false => exact ⟨hr, hf⟩
        | true =>
          rcases hor with h1 | h1
          · have := hfin h1; cases this
          · exact h1
      have hset : (flist pd j L).setIfInBounds i true = flist pd j (L.setIfInBounds i true) := by
        cases pd with
        | false => exact Array.setIfInBounds_comm _ _ (fun e => hij e.symm)
        | true => rfl
      obtain ⟨f, rfl⟩ : ∃ f, fuel = f + 1 := by
        cases fuel with
        | zero => cases pd <;> simp [fcnt, lenF] at hn
        | succ f => exact ⟨f, rfl⟩
      have hn' : fcnt pd (lenF r) ≤ f := by cases pd <;> simp [fcnt, lenF] at hn ⊢ <;> omega
      simp only [wpOrdF] at h
      split at h
      · exact h.elim
      · rename_i o ho
        have go : ∀ v, YieldsIf P ops (fun w => w0.grownBy w none) o v a → wpOrdF P ops Q w0 j (Q .normal) r pd (a.put o.dst v) w → wpAnyH P md ops Q (fun w => w0.grownBy w none) (f + 1) (flist pd j L) a w := fun v hy h2 =>
          wpAnyH_take ho hsel hr2.2 hr2.1 (fun c a w => hQ c a _ _ w) hy hg (by rw [hset]; exact ih fin _ pd _ w f hB' hfin hn' hg h2)
        split at h
        · rename_i hw
          obtain ⟨v, h1, h2⟩ := h
          refine go v (.inl ⟨hw, fun w' hw' => ?_⟩) h2
          obtain ⟨x, rfl⟩ := ext_of_grown hw'
          exact h1 x
        · rename_i hw
          exact go undef (.inr ⟨by simpa using hw, rfl⟩) h
    | false =>
      simp only [ordFB, Bool.and_eq_true, Bool.or_eq_true, decide_eq_true_eq] at hB
      obtain ⟨⟨⟨hij, hr⟩, hor⟩, hB'⟩ := hB
      have hc : (L.setIfInBounds j true).setIfInBounds i true = (L.setIfInBounds i true).setIfInBounds j true := Array.setIfInBounds_comm _ _ (fun e => hij e.symm)
      simp only [wpOrdF] at h
      cases pd with
      | false =>
        obtain ⟨f, rfl⟩ : ∃ f, fuel = f + 1 := by
          cases fuel with
          | zero => simp [fcnt, lenF] at hn
          | succ f => exact ⟨f, rfl⟩
        refine wpAnyH_all (show Region.ready md ops (flist false j L) = [i] from hr) (by simp) (fun k hk => ?_)
        obtain rfl : k = i := by simpa using hk
        refine wpOp_mono (fun a' w' h' => ⟨h'.1, ?_⟩) h.1
        have := ih fin (L.setIfInBounds k true) false a' w' f hB' hfin (by simp [fcnt, lenF] at hn ⊢; omega) h'.1 h'.2
        simpa [flist, hc] using this
      | true =>
        have hall : ¬ Region.ready md ops L = [] ∧ ∀ k ∈ Region.ready md ops L, k = i ∨ k = j := by
          rcases hor with h1 | h1
          · have := hfin h1; cases this
          · exact ⟨by simpa using h1.1, fun k hk => by simpa using List.all_eq_true.1 h1.2 k hk⟩
        obtain ⟨f, rfl⟩ : ∃ f, fuel = f + 1 + 1 := by
          match fuel, hn with
          | 0, hn => simp [fcnt, lenF] at hn
          | 1, hn => simp [fcnt, lenF] at hn
          | f + 2, _ => exact ⟨f, rfl⟩
        have h1 := h.2 rfl
        refine ⟨fun h0 => (hall.1 h0).elim, fun k hk => ?_⟩
        rcases hall.2 k hk with rfl | rfl
        · exact wpOp_mono (fun a' w' h' => ⟨h'.1, ih fin (L.setIfInBounds k true) true a' w' (f + 1) hB' hfin (by simp [fcnt, lenF] at hn ⊢; omega) h'.1 h'.2⟩) h.1
        · refine wpOp_mono (fun a1 w1 h' => ⟨h'.1, ?_⟩) h1
          refine wpAnyH_all (rs := [i]) hr (by simp) (fun q hq => ?_)
          obtain rfl : q = i := by simpa using hq
          refine wpOp_mono (fun a' w' h'' => ⟨h''.1, ?_⟩) h'.2
          have := ih fin (L.setIfInBounds q true) false a' w' f hB' (fun _ => rfl) (by simp [fcnt, lenF] at hn ⊢; omega) h''.1 h''.2
          simpa [flist, hc] using this

/-- A region in the order 'ord', where number j makes a variable at no fixed time. -/
theorem wp_region_float {id : Nat} {a : Act} {w : World} {l : List Oper} (j : Nat) (ord : List (Nat × Option Bool)) (hm : P.follows .mixedOrders = true)
    (hB : (Region.noSelect l.toArray && decide (lenF ord + 1 = l.length) && ordFB .any l.toArray j ord false (Array.replicate l.length false)) = true)
    (h : wpOrdF P l.toArray (NoPanic Q) w j (NoPanic Q .normal) ord true a w.drew) : (Code.region id l.toArray true).wp P Q a w := by
  simp only [Bool.and_eq_true, decide_eq_true_eq] at hB
  obtain ⟨⟨h1, h2⟩, h3⟩ := hB
  refine wp_region_noPanic (wp_region_any hm ?_)
  have := wpOrdF_sound (md := .any) (w0 := w) h1 (fun c a d v w h => (h : False).elim) ord false _ true a w.drew l.length h3 (fun h => by cases h) (by simp [fcnt]; omega) (grown_draw w) h
  exact wpAny_of_held _ _ _ _ (by simpa [flist] using this)

theorem wpOrdF_nil {T : Act → World → Prop} {a : Act} {w : World} (h : T a w) : wpOrdF P ops Q w0 j T [] false a w := ⟨rfl, h⟩
theorem wpOrdF_soft {T : Act → World → Prop} {i : Nat} {pd : Bool} {r : List (Nat × Option Bool)} {a : Act} {w : World}
    (h : ∀ K : Act → Prop, (∀ a, wpOrdF P ops Q w0 j T r pd a w → K a) → match ops[i]? with | none => False | some o => if Region.wanted o (yielded ops a.tmps) = true then softAt P w0 none o a K else K (a.put o.dst undef)) : wpOrdF P ops Q w0 j T ((i, some true) :: r) pd a w :=
  h _ fun _ h => h

theorem put_self {a : Act} {d : Nat} (hd : d < a.tmps.size) : a.put (some d) (a.tmps.getD d undef) = a := by
  cases a with
  | mk tmps defers =>
    have hd' : d < tmps.size := hd
    show Act.mk (tmps.setIfInBounds d (tmps.getD d undef)) defers = Act.mk tmps defers
    congr 1
    apply Array.ext_getElem?
    intro i
    rw [Array.getElem?_setIfInBounds]
    split
    · rename_i e; subst e; simp [Array.getD, hd']
    · rfl

/-- A step that is taken whether the variable is there or not. -/
theorem wpOrdF_hard {T : Act → World → Prop} {i d : Nat} {pd : Bool} {obj : Obj} {L : List (Nat × Nat)} {r : List (Nat × Option Bool)} {a : Act} {w : World}
    (hal : ∀ (K : Act → World → Prop) (a : Act) (w : World), K (a.put (some d) (.pointer (some ⟨w.heap.size, 0, none⟩))) (w.alloc obj) → wpOp P ops Q j K a w)
    (hd : d < a.tmps.size) (hg : w0.grownBy w none) (hf : Fl w0 obj L pd (a.tmps.getD d undef) w)
    (h : ∀ pd' u w', Below w.heap.size w w' → w0.grownBy w' none → Fl w0 obj L pd' u w' → match ops[i]? with | none => False | some o => wpList P ops (only Q fun a' w'' => w0.grownBy w'' none ∧ wpOrdF P ops Q w0 j T r pd' a' w'') [o] (a.put (some d) u) w') : wpOrdF P ops Q w0 j T ((i, some false) :: r) pd a w := by
  simp only [wpOrdF]
  refine ⟨?_, fun hp => hal _ _ _ ?_⟩
  · have := h pd _ w (Below.refl _ _) hg hf
    rw [put_self hd] at this
    exact wpOp_only this
  · subst hp
    have hg' : w0.grownBy (w.alloc obj) none := grown_trans hg (World.grownBy_alloc _ _ _)
    refine ⟨hg', wpOp_only (h false _ _ ((Below.refl _ _).alloc (Nat.le_refl _) _) hg' ?_)⟩
    rcases hf with ⟨_, h1, h2⟩ | ⟨h1, _⟩
    · refine .inr ⟨rfl, w.heap.size, rfl, h1, by simp, heap_alloc_new w _, fun q hq => .inr (h2 q hq)⟩
    · cases h1
theorem wpOrdF_settle {T : Act → World → Prop} {i d : Nat} {pd : Bool} {obj : Obj} {L : List (Nat × Nat)} {r : List (Nat × Option Bool)} {a : Act} {w : World}
    (hal : ∀ (K : Act → World → Prop) (a : Act) (w : World), K (a.put (some d) (.pointer (some ⟨w.heap.size, 0, none⟩))) (w.alloc obj) → wpOp P ops Q j K a w)
    (hd : d < a.tmps.size) (hg : w0.grownBy w none) (hf : Fl w0 obj L pd (a.tmps.getD d undef) w)
    (h : ∀ b w', Below w.heap.size w w' → w0.grownBy w' none → w0.heap.size ≤ b → b < w'.heap.size → w'.heap[b]? = some obj → (∀ q ∈ L, b < q.1 ∨ q.2 ≤ b) → wpOrdF P ops Q w0 j T r false (a.put (some d) (.pointer (some ⟨b, 0, none⟩))) w') : wpOrdF P ops Q w0 j T ((i, none) :: r) pd a w := by
  simp only [wpOrdF]
  refine ⟨fun hp => hal _ _ _ ?_, fun hp => ?_⟩
  · subst hp
    have hg' : w0.grownBy (w.alloc obj) none := grown_trans hg (World.grownBy_alloc _ _ _)
    rcases hf with ⟨_, h1, h2⟩ | ⟨h1, _⟩
    · exact ⟨hg', h w.heap.size _ ((Below.refl _ _).alloc (Nat.le_refl _) _) hg' h1 (by simp) (heap_alloc_new w _) (fun q hq => .inr (h2 q hq))⟩
    · cases h1
  · subst hp
    rcases hf with ⟨h1, _⟩ | ⟨_, b, h1, h2, h3, h4, h5⟩
    · cases h1
    · have := h b w (Below.refl _ _) hg h2 h3 h4 h5
      rw [← h1, put_self hd] at this
      exact this
theorem wpOrdF_last {T : Act → World → Prop} {i : Nat} {r : List (Nat × Option Bool)} {a : Act} {w : World}
    (h : match ops[i]? with | none => False | some o => wpList P ops (only Q fun a' w'' => w0.grownBy w'' none ∧ wpOrdF P ops Q w0 j T r false a' w'') [o] a w) : wpOrdF P ops Q w0 j T ((i, some false) :: r) false a w :=
  ⟨wpOp_only h, fun h => by cases h⟩
theorem grown_setNew {a w : World} (h : a.grownBy w none) {p : Addr} (hp : a.heap.size ≤ p.block) (u : Value) : a.grownBy (w.setCell p u) none :=
  ⟨h.os, h.tape, h.output, by have := h.size; simpa [World.setCell] using this, fun k hk hne => (Below.heap_setCell _ _ _ _ (by omega)).trans (h.block k hk hne)⟩
/-- A cell of a block that is as it was made. -/
theorem cell_fresh {w : World} {b o : Nat} {cs : Array Value} {e : TypeId} {u : Value} (h : w.heap[b]? = some (.cells cs e)) (hu : cs[o]? = some u) : w.cell? ⟨b, o, none⟩ = some u := by
  rw [cell_of_row w b o cs e (0, 0) h]; exact hu
theorem frozen_fresh {w : World} {b o : Nat} {cs : Array Value} {e : TypeId} (h : w.heap[b]? = some (.cells cs e)) : w.frozen? ⟨b, o, none⟩ = false := by
  unfold World.frozen?
  rw [h]
  rfl

end
end Go.Proofs.Ytfnbjegbaobpnaa
