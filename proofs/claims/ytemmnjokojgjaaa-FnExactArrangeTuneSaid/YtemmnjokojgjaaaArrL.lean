/- Arranging: which tones are kept, and which are moved. Plain. -/
import Derived.Test.YtemmnjokojgjaaaPlace
import Derived.Test.YtemmnjokojgjaaaAsk
import Derived.Test.YtemmnjokojgjaaaMiss
set_option linter.unusedSimpArgs false
set_option linter.unnecessarySimpa false
set_option linter.unusedVariables false
set_option maxRecDepth 100000
namespace Go.Proofs.Ytemmnjokojgjaaa
open Go.RowKit

/-- Start and note are the same. -/
def snB (t y : Ton) : Bool := decide (y.start = t.start) && decide (y.note = t.note)
theorem snB_iff {t y : Ton} : snB t y = true ↔ y.start = t.start ∧ y.note = t.note := by simp [snB]
def arTon (ns : List Int) (b : Int) (x : Ton) : Ton := ⟨placeV ns (x.note + b), x.start, x.len⟩
def arMv (ns : List Int) (b : Int) (x : Ton) : Bool := placeV ns (x.note + b) != x.note + b
def zTon : Ton := ⟨0, 0, 0⟩
def arStep (ns : List Int) (b : Int) (s : List Ton × List Bool) (x : Ton) : List Ton × List Bool :=
  if placeV ns (x.note + b) < 0 then s else
  match s.1.findIdx? (snB (arTon ns b x)) with
  | none => (s.1 ++ [arTon ns b x], s.2 ++ [arMv ns b x])
  | some k => if (s.1.getD k zTon).len < x.len then (s.1.set k (arTon ns b x), s.2.set k (arMv ns b x)) else s
def arTo (ns : List Int) (b : Int) (ts : List Ton) : Nat → List Ton × List Bool
  | 0 => ([], [])
  | k + 1 => match ts[k]? with
    | some x => arStep ns b (arTo ns b ts k) x
    | none => arTo ns b ts k
theorem arTo_at {ns : List Int} {b : Int} {ts : List Ton} {k : Nat} (h : k < ts.length) : arTo ns b ts (k + 1) = arStep ns b (arTo ns b ts k) ts[k] := by
  conv => lhs; unfold arTo
  rw [List.getElem?_eq_getElem h]
theorem ar_drop {ns : List Int} {b : Int} {s : List Ton × List Bool} {x : Ton} (h : placeV ns (x.note + b) < 0) : arStep ns b s x = s := if_pos h
theorem find_none {P : Ton → Bool} {xs : List Ton} (h : ∀ j (hj : j < xs.length), P xs[j] = false) : xs.findIdx? P = none := by
  rw [List.findIdx?_eq_none_iff]
  intro x hx
  obtain ⟨j, hj, rfl⟩ := List.getElem_of_mem hx
  exact h j hj
theorem find_some {P : Ton → Bool} {xs : List Ton} {k : Nat} (hk : k < xs.length) (hp : P xs[k] = true) (h : ∀ j (hj : j < xs.length), j < k → P xs[j] = false) : xs.findIdx? P = some k := by
  rw [List.findIdx?_eq_some_iff_getElem]
  exact ⟨hk, hp, fun j hj => by have := h j (by omega) hj; simp [this]⟩
theorem ar_new {ns : List Int} {b : Int} {s : List Ton × List Bool} {x : Ton} (h : ¬ placeV ns (x.note + b) < 0) (hn : ∀ j (hj : j < s.1.length), snB (arTon ns b x) s.1[j] = false) : arStep ns b s x = (s.1 ++ [arTon ns b x], s.2 ++ [arMv ns b x]) := by
  unfold arStep; rw [if_neg h, find_none hn]
theorem ar_set {ns : List Int} {b : Int} {s : List Ton × List Bool} {x : Ton} {k : Nat} (h : ¬ placeV ns (x.note + b) < 0) (hk : k < s.1.length) (hp : snB (arTon ns b x) s.1[k] = true) (hn : ∀ j (hj : j < s.1.length), j < k → snB (arTon ns b x) s.1[j] = false) (hl : s.1[k].len < x.len) :
    arStep ns b s x = (s.1.set k (arTon ns b x), s.2.set k (arMv ns b x)) := by
  unfold arStep; rw [if_neg h, find_some hk hp hn]
  simp only
  rw [show s.1.getD k zTon = s.1[k] by simp [hk], if_pos hl]
theorem ar_keep {ns : List Int} {b : Int} {s : List Ton × List Bool} {x : Ton} {k : Nat} (h : ¬ placeV ns (x.note + b) < 0) (hk : k < s.1.length) (hp : snB (arTon ns b x) s.1[k] = true) (hn : ∀ j (hj : j < s.1.length), j < k → snB (arTon ns b x) s.1[j] = false) (hl : ¬ s.1[k].len < x.len) :
    arStep ns b s x = s := by
  unfold arStep; rw [if_neg h, find_some hk hp hn]
  simp only
  rw [show s.1.getD k zTon = s.1[k] by simp [hk], if_neg hl]

/-- No two of the tones have start and note in common. -/
def Dst (d : List Ton) : Prop := d.Pairwise fun x y => ¬ (x.start = y.start ∧ x.note = y.note)
structure ArOk (k : Nat) (s : List Ton × List Bool) : Prop where
  len : s.2.length = s.1.length
  le : s.1.length ≤ k
  ok : ∀ y ∈ s.1, TonOk y
  dst : Dst s.1
theorem dst_at {d : List Ton} (h : Dst d) {i j : Nat} (hi : i < d.length) (hj : j < d.length) (t : Ton) (h1 : snB t d[i] = true) (h2 : snB t d[j] = true) : i = j := by
  obtain ⟨a1, a2⟩ := snB_iff.1 h1
  obtain ⟨b1, b2⟩ := snB_iff.1 h2
  unfold Dst at h
  rw [List.pairwise_iff_getElem] at h
  rcases Nat.lt_trichotomy i j with g | g | g
  · exact absurd ⟨a1.trans b1.symm, a2.trans b2.symm⟩ (h i j hi hj g)
  · exact g
  · exact absurd ⟨b1.trans a1.symm, b2.trans a2.symm⟩ (h j i hj hi g)
theorem ar_ton_ok {ns : List Int} {b : Int} {x : Ton} (hs : SetIn ns) (hx : TonOk x) (h : ¬ placeV ns (x.note + b) < 0) : TonOk (arTon ns b x) := by
  refine ⟨?_, hx.start, hx.len⟩
  rcases place_in ns (x.note + b) with e | e
  · rw [e] at h; omega
  · exact hs _ e
theorem ArOk.step {ns : List Int} {b : Int} {k : Nat} {s : List Ton × List Bool} {x : Ton} (h : ArOk k s) (hs : SetIn ns) (hx : TonOk x) : ArOk (k + 1) (arStep ns b s x) := by
  by_cases hp : placeV ns (x.note + b) < 0
  · rw [ar_drop hp]; exact ⟨h.len, by have := h.le; omega, h.ok, h.dst⟩
  · have ht := ar_ton_ok hs hx hp
    unfold arStep
    rw [if_neg hp]
    cases hf : s.1.findIdx? (snB (arTon ns b x)) with
    | none =>
      rw [List.findIdx?_eq_none_iff] at hf
      refine ⟨by simp [h.len], by have := h.le; simp; omega, fun y hy => ?_, ?_⟩
      · rcases List.mem_append.1 hy with hy | hy
        · exact h.ok y hy
        · rw [List.mem_singleton.1 hy]; exact ht
      · unfold Dst
        rw [List.pairwise_append]
        refine ⟨h.dst, by simp, fun y hy z hz => ?_⟩
        rw [List.mem_singleton.1 hz]
        intro e
        have := hf y hy
        rw [snB_iff.2 e] at this; cases this
    | some j =>
      simp only
      rw [List.findIdx?_eq_some_iff_getElem] at hf
      obtain ⟨hj, h1, h2⟩ := hf
      split
      · refine ⟨by simp [h.len], by have := h.le; simp; omega, fun y hy => ?_, ?_⟩
        · rcases List.mem_or_eq_of_mem_set hy with hy | rfl
          · exact h.ok y hy
          · exact ht
        · obtain ⟨e1, e2⟩ := snB_iff.1 h1
          have hd := h.dst
          unfold Dst at hd ⊢
          rw [List.pairwise_iff_getElem] at hd ⊢
          intro p q hp hq hpq
          simp only [List.length_set] at hp hq
          have hpqs := hd p q hp hq hpq
          by_cases ep : j = p
          · subst ep
            rw [List.getElem_set_self, List.getElem_set_ne (by omega), ← e1, ← e2]; exact hpqs
          · by_cases eq : j = q
            · subst eq
              rw [List.getElem_set_self, List.getElem_set_ne (by omega), ← e1, ← e2]; exact hpqs
            · rw [List.getElem_set_ne ep, List.getElem_set_ne eq]; exact hpqs
      · exact ⟨h.len, by have := h.le; omega, h.ok, h.dst⟩
theorem ar_ok {ns : List Int} {b : Int} {ts : List Ton} (hs : SetIn ns) (ht : ∀ x ∈ ts, TonOk x) : ∀ k, ArOk k (arTo ns b ts k)
  | 0 => ⟨rfl, Nat.le_refl _, (fun y hy => by cases hy), List.Pairwise.nil⟩
  | k + 1 => by
    by_cases h : k < ts.length
    · rw [arTo_at h]; exact (ar_ok hs ht k).step hs (ht _ (List.getElem_mem h))
    · have e : arTo ns b ts (k + 1) = arTo ns b ts k := by
        conv => lhs; unfold arTo
        rw [List.getElem?_eq_none (by omega)]
      rw [e]
      have := ar_ok (b := b) hs ht k
      exact ⟨this.len, by have := this.le; omega, this.ok, this.dst⟩

/-- How many of the first k are moved. -/
def mvCnt (l : List Bool) : Nat → Int
  | 0 => 0
  | k + 1 => if l.getD k false = true then mvCnt l k + 1 else mvCnt l k
theorem mv_bd (l : List Bool) : ∀ k : Nat, 0 ≤ mvCnt l k ∧ mvCnt l k ≤ (k : Int)
  | 0 => ⟨Int.le_refl _, Int.le_refl _⟩
  | k + 1 => by
    have := mv_bd l k
    unfold mvCnt; split <;> omega
theorem mv_yes {l : List Bool} {k : Nat} (h : l.getD k false = true) : mvCnt l (k + 1) = mvCnt l k + 1 := if_pos h
theorem mv_no {l : List Bool} {k : Nat} (h : l.getD k false = false) : mvCnt l (k + 1) = mvCnt l k := if_neg (by rw [h]; exact Bool.false_ne_true)

end Go.Proofs.Ytemmnjokojgjaaa
