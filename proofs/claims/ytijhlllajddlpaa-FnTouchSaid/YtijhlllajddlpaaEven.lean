/- Contracts of EvenWeights of both packages. -/
import Derived.Test.YtijhlllajddlpaaClav
import Derived.Test.YtijhlllajddlpaaOwnAct
import Derived.Test.YtijhlllajddlpaaActsM
set_option linter.unusedSimpArgs false
set_option linter.unnecessarySimpa false
set_option linter.unusedVariables false
set_option maxRecDepth 100000
namespace Go.Proofs.Ytijhlllajddlpaa
open Go.RowKit

/-- A weight whose touch is no more than lim. -/
def fits (ls : List Lev) (lim u : Int) : Prop := 0 ≤ heave ls u ∧ heave ls u ≤ lim
theorem fits_mono {ls : List Lev} {lim u u' : Int} (h : armsOk ls) (h0 : 0 ≤ u) (h1 : u ≤ u') (h2 : u' ≤ 1000000000000) (hf : fits ls lim u') : fits ls lim u := by
  obtain ⟨f0, f1⟩ := hf
  have hm := chain_mono (M := 1000000000000) ls.reverse u u' h.rev h0 h1
  have hi := heave_in (u := u) h h0 (by omega)
  unfold heave at *
  unfold fits heave
  omega
/-- The greatest weight that fits. -/
def IsEven (ls : List Lev) (lim u : Int) : Prop := 0 ≤ u ∧ u ≤ 1000000 ∧ fits ls lim u ∧ (u < 1000000 → ¬ fits ls lim (u + 1))
theorem IsEven.uniq {ls : List Lev} {lim u u' : Int} (ok : armsOk ls) (h : IsEven ls lim u) (h' : IsEven ls lim u') : u = u' := by
  obtain ⟨a1, a2, a3, a4⟩ := h
  obtain ⟨b1, b2, b3, b4⟩ := h'
  rcases Int.lt_trichotomy u u' with hl | hl | hl
  · exact absurd (fits_mono ok (by omega) (by omega) (by omega) b3) (a4 (by omega))
  · exact hl
  · exact absurd (fits_mono ok (by omega) (by omega) (by omega) a3) (b4 (by omega))
noncomputable def evenW (ls : List Lev) (lim : Int) : Int := open Classical in if h : ∃ u, IsEven ls lim u then Classical.choose h else 0
theorem evenW_eq {ls : List Lev} {lim u : Int} (ok : armsOk ls) (h : IsEven ls lim u) : evenW ls lim = u := by
  unfold evenW
  rw [dif_pos ⟨u, h⟩]
  exact IsEven.uniq ok (Classical.choose_spec ⟨u, h⟩) h
theorem heave_zero : ∀ (ls : List Lev), armsOk ls → heave ls 0 = 0 := by
  have key : ∀ (l : List Lev), armsOk l → chain 1000000000000 l 0 = 0 := by
    intro l
    induction l with
    | nil => intro _; rfl
    | cons x r ih =>
      intro h
      have hx := h x (by simp)
      unfold arm at hx
      unfold chain
      rw [Int.zero_mul, near_zero (by omega), if_neg (by omega)]
      exact ih fun y hy => h y (by simp [hy])
  intro ls h
  exact key _ h.rev
/-- The state of the search. -/
structure EvS (ls : List Lev) (lim low high : Int) : Prop where
  l0 : 0 ≤ low
  lh : low ≤ high
  h1 : high ≤ 1000000
  lo : fits ls lim low
  hi : high < 1000000 → ¬ fits ls lim (high + 1)
theorem EvS.start {ls : List Lev} {lim : Int} (ok : armsOk ls) (hl : 0 ≤ lim) : EvS ls lim 0 1000000 := ⟨by omega, by omega, by omega, by unfold fits; rw [heave_zero ls ok]; omega, by omega⟩
theorem EvS.done {ls : List Lev} {lim low : Int} (ok : armsOk ls) (h : EvS ls lim low low) : evenW ls lim = low := evenW_eq ok ⟨h.l0, h.h1, h.lo, h.hi⟩
theorem EvS.up {ls : List Lev} {lim low high m : Int} (h : EvS ls lim low high) (h1 : low ≤ m) (h2 : m ≤ high) (hf : fits ls lim m) : EvS ls lim m high := ⟨by have := h.l0; omega, h2, h.h1, hf, h.hi⟩
theorem EvS.down {ls : List Lev} {lim low high m : Int} (h : EvS ls lim low high) (h1 : low < m) (h2 : m ≤ high) (hf : ¬ fits ls lim m) : EvS ls lim low (m - 1) := ⟨h.l0, by omega, by have := h.h1; omega, h.lo, fun _ => by rw [show m - 1 + 1 = m by omega]; exact hf⟩

noncomputable def evenA (lim : Int) (x : ActD) : ActD := { x with weight := evenW x.levs lim }
noncomputable def evens (xs : List ActD) (lim : Int) : List ActD := xs.map (evenA lim)
def limOk (t : Int) : Prop := 0 ≤ t ∧ t ≤ 1000000
instance (t : Int) : Decidable (limOk t) := by unfold limOk; infer_instance
noncomputable def evV (xs : List ActD) (lim : Int) : List ActD := if clavB xs then (if limOk lim then evens xs lim else []) else []
noncomputable def evC (xs : List ActD) (lim : Int) : Int := if clavB xs then (if limOk lim then 0 else 2) else 1
theorem ev_yes {xs : List ActD} {lim : Int} (h : clavB xs = true) (hl : limOk lim) : evV xs lim = evens xs lim ∧ evC xs lim = 0 := by
  unfold evV evC; rw [h, if_pos rfl, if_pos rfl, if_pos hl, if_pos hl]; exact ⟨rfl, rfl⟩
theorem ev_rng {xs : List ActD} {lim : Int} (h : clavB xs = true) (hl : ¬ limOk lim) : evV xs lim = [] ∧ evC xs lim = 2 := by
  unfold evV evC; rw [h, if_pos rfl, if_pos rfl, if_neg hl, if_neg hl]; exact ⟨rfl, rfl⟩
theorem ev_inv {xs : List ActD} {lim : Int} (h : clavB xs = false) : evV xs lim = [] ∧ evC xs lim = 1 := by unfold evV evC; rw [h]; exact ⟨rfl, rfl⟩
theorem evens_sum (xs : List ActD) (lim : Int) : ∀ k, levSum (evens xs lim) k = levSum xs k
  | 0 => rfl
  | k + 1 => by
    have ih := evens_sum xs lim k
    simp only [levSum]
    rw [ih]
    simp only [evens, List.getElem?_map]
    cases xs[k]? <;> simp [evenA]
theorem ev_bd (xs : List ActD) (lim : Int) (h : szActs xs ≤ 1048576) : sizeActs (evV xs lim) ≤ 3145728 := by
  have e : sizeActs (evens xs lim) = sizeActs xs := by unfold sizeActs numSum; rw [evens_sum]; simp [evens]
  have := sizeActs_bd h
  unfold evV; split
  · split
    · omega
    · simp [sizeActs, numSum, levSum]
  · simp [sizeActs, numSum, levSum]

theorem ActsSt.nil (B E : Nat) (w : World) : ActsSt B E w (.slice none 0 0) [] := ⟨⟨owns_nil _ _ _ _, fun k hk => by simp [Value.ownBlock] at hk⟩, by simp, by simp, by simp⟩
theorem OwnActs.nil (B E : Nat) (w : World) : OwnActs B E w (.slice none 0 0) [] := ⟨[], rfl, ActsSt.nil B E w⟩
theorem ActsSt.mono {B E : Nat} {w w' : World} {v : Value} {ys : List (Value × ActD)} (h : ActsSt B E w v ys) (hb : Below w.heap.size w w') : ActsSt B E w' v ys := ⟨h.1.mono hb, fun y hy => (h.2.1 y hy).mono hb, h.2.2⟩
/-- One more action behind, its levers made last of all, its row perhaps anew. -/
theorem ActsSt.snoc {B E L F : Nat} {w w1 w2 : World} {v v' lv : Value} {ys : List (Value × ActD)} {x : ActD} (h : ActsSt B E w v ys) (hE : E ≤ L) (hLF : L ≤ F) (hBE : B ≤ E)
    (h1 : Below w.heap.size w w1) (hw : E ≤ w.heap.size) (hlv : OwnRow L F w1 51 2 lv x.levs.length (x.levs.flatMap Lev.cells))
    (hg : w1.grownBy w2 v.ownBlock) (hrow : w2.ownsRow B 30 4 v' (ys.length + 1) (ys.flatMap actCells ++ actCells (lv, x)))
    (hat : v'.ownBlock = v.ownBlock ∨ ∃ q, v'.ownBlock = some q ∧ F ≤ q) : ActsSt B w2.heap.size w2 v' (ys ++ [(lv, x)]) := by
  obtain ⟨s1, s2, s3, s4⟩ := h
  have vlt : ∀ q, v.ownBlock = some q → q < E := s1.2
  have lvlt : ∀ q, lv.ownBlock = some q → L ≤ q ∧ q < F := fun q hq => ⟨(hlv.1.lt q hq).1, hlv.2 q hq⟩
  have olt : ∀ y ∈ ys, ∀ q, y.1.ownBlock = some q → q < E := fun y hy => (s2 y hy).2
  have w2E : ∀ q, q < w1.heap.size → q < w2.heap.size := fun q hq => Nat.lt_of_lt_of_le hq hg.size
  have avl : v.ownBlock = none ∨ v.ownBlock ≠ lv.ownBlock := by
    cases hv : v.ownBlock with
    | none => exact .inl rfl
    | some q => exact .inr fun e => by have := vlt q hv; have := (lvlt q e.symm).1; omega
  have hlv2 := hlv.far hg avl
  refine ⟨⟨?_, fun q hq => (hrow.lt q hq).2⟩, ?_, ?_, ?_⟩
  · rw [List.length_append, List.flatMap_append]; simpa using hrow
  · intro y hy
    rcases List.mem_append.1 hy with hy | hy
    · have a := ((s2 y hy).mono h1).far hg (by
        cases hv : v.ownBlock with
        | none => exact .inl rfl
        | some q => exact .inr (by have := s3 y hy; rcases this with h | h
                                   · rw [hv] at h; cases h
                                   · rw [← hv]; exact h))
      exact ⟨a.1, fun q hq => (a.1.lt q hq).2⟩
    · simp only [List.mem_singleton] at hy
      subst hy
      exact ⟨owns_base hlv2.1 (by omega), fun q hq => (hlv2.1.lt q hq).2⟩
  · intro y hy
    cases hv' : v'.ownBlock with
    | none => exact .inl hv'
    | some p =>
      refine .inr ?_
      rw [hv']
      rcases List.mem_append.1 hy with hy | hy
      · rcases hat with h | ⟨q, h, hq⟩
        · have := s3 y hy
          rcases this with h2 | h2
          · rw [hv', h2] at h; cases h
          · rw [← hv', h]; exact h2
        · rw [hv'] at h; cases h
          intro e; have := olt y hy p e.symm; omega
      · simp only [List.mem_singleton] at hy
        subst hy
        intro e
        have l := lvlt p e.symm
        rcases hat with h | ⟨q, h, hq⟩
        · rw [hv'] at h; have := vlt p h.symm; omega
        · rw [hv'] at h; cases h; omega
  · rw [List.map_append, List.pairwise_append]
    refine ⟨s4, by simp, fun a1 ha b hb' => ?_⟩
    simp only [List.map_cons, List.map_nil, List.mem_singleton] at hb'
    subst hb'
    obtain ⟨y, hy, rfl⟩ := List.mem_map.1 ha
    cases hv1 : y.1.ownBlock with
    | none => exact .inl hv1
    | some q => exact .inr fun e2 => by rw [hv1] at e2; have := olt y hy q hv1; have := (lvlt q e2.symm).1; omega

theorem evens_take {xs : List ActD} {k : Nat} (h : k < xs.length) (lim : Int) : (evens xs lim).take (k + 1) = (evens xs lim).take k ++ [evenA lim xs[k]] := by
  rw [List.take_succ_eq_append_getElem (by simpa [evens] using h)]; simp [evens]
theorem act_one (y : Value × ActD) (h : y.1.oneCell' = true) : ∀ u ∈ actCells y, u.oneCell' = true := by
  intro u hu
  simp only [actCells, List.mem_cons, List.not_mem_nil, or_false] at hu
  rcases hu with rfl | rfl | rfl | rfl <;> first | rfl | exact h

end Go.Proofs.Ytijhlllajddlpaa
