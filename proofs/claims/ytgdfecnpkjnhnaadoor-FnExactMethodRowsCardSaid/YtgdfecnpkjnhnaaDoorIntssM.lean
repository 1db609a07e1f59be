/- The laws' marks on a row of rows of numbers, and a row of rows that grows. -/
import Derived.Test.YtgdfecnpkjnhnaaDoorIntssTo
import Derived.Test.YtgdfecnpkjnhnaaDoorKIntsM
set_option linter.unusedSimpArgs false
set_option linter.unnecessarySimpa false
set_option linter.unusedVariables false
set_option maxRecDepth 100000
namespace Go.Proofs.YtgdfecnpkjnhnaaDoor
open Go.RowKit

def mkRow (k n : Nat) : List Int := (List.range n).map fun i => ((k + i : Nat) : Int)
theorem mkRow_len (k n : Nat) : (mkRow k n).length = n := by simp [mkRow]
theorem mkRow_cells (k n : Nat) : (mkRow k n).map (Value.int .i64) = marks k n := by simp [mkRow, marks]
def mkRows (k : Nat) (xs : List (List Int)) : List (List Int) := (List.range xs.length).map fun j => mkRow (k + lenSum xs j) ((xs[j]?.map List.length).getD 0)
theorem mkRows_len (k : Nat) (xs : List (List Int)) : (mkRows k xs).length = xs.length := by simp [mkRows]
theorem mkRows_at (k : Nat) (xs : List (List Int)) {j : Nat} (h : j < xs.length) : (mkRows k xs)[j]'(by rw [mkRows_len]; exact h) = mkRow (k + lenSum xs j) xs[j].length := by simp [mkRows, h]
def sizeIntss (xs : List (List Int)) : Nat := lenSum xs xs.length

theorem OwnRow.far {B E : Nat} {w w' : World} {e : TypeId} {size n : Nat} {u : Value} {cs : List Value} (h : OwnRow B E w e size u n cs) {b : Option Nat} (hg : w.grownBy w' b) (hb : b = none ∨ b ≠ u.ownBlock) : OwnRow B E w' e size u n cs := by
  refine ⟨⟨h.1.1, ?_⟩, h.2⟩
  rcases h.1.2 with h2 | ⟨g, cap, cur, rfl, b', c, d⟩
  · exact .inl h2
  · refine .inr ⟨g, cap, cur, rfl, b', (hg.block g (Array.getElem?_eq_some_iff.1 c).1 ?_).trans c, d⟩
    rcases hb with hb | hb
    · rw [hb]; simp
    · exact fun e => hb e.symm

/-- Rows that lie apart. -/
def ISt (B E : Nat) (w : World) (v : Value) (ys : List (Value × List Int)) : Prop := OwnRow B E w 63 1 v ys.length (ys.map Prod.fst) ∧
  (∀ y ∈ ys, OwnRow B E w 2 1 y.1 y.2.length (y.2.map (Value.int .i64))) ∧ (∀ y ∈ ys, apart v y.1) ∧ (ys.map Prod.fst).Pairwise apart
theorem OwnIntss.st {B E : Nat} {w : World} {v : Value} {xs : List (List Int)} : OwnIntss B E w v xs ↔ ∃ ys : List (Value × List Int), ys.map Prod.snd = xs ∧ ISt B E w v ys := Iff.rfl
theorem ISt.mono {B E : Nat} {w w' : World} {v : Value} {ys : List (Value × List Int)} (h : ISt B E w v ys) (hb : Below w.heap.size w w') : ISt B E w' v ys := ⟨h.1.mono hb, fun y hy => (h.2.1 y hy).mono hb, h.2.2⟩
theorem ISt.wide {B E B' E' : Nat} {w : World} {v : Value} {ys : List (Value × List Int)} (h : ISt B E w v ys) (hB : B' ≤ B) (hE : E ≤ E') : ISt B' E' w v ys := ⟨h.1.wide hB hE, fun y hy => (h.2.1 y hy).wide hB hE, h.2.2⟩
theorem ISt.nil (B E : Nat) (w : World) : ISt B E w (.slice none 0 0) [] := ⟨⟨owns_nil _ _ _ _, fun k hk => by simp [Value.ownBlock] at hk⟩, by simp, by simp, by simp⟩
theorem OwnIntss.nil (B E : Nat) (w : World) : OwnIntss B E w (.slice none 0 0) [] := ⟨[], rfl, ISt.nil B E w⟩

theorem pair_apart {ys : List (Value × List Int)} (h : (ys.map Prod.fst).Pairwise apart) {i j : Nat} (hi : i < ys.length) (hj : j < ys.length) (hne : i ≠ j) : apart ys[i].1 ys[j].1 := by
  have h' := List.pairwise_iff_getElem.1 h
  rcases Nat.lt_or_gt_of_ne hne with hl | hl
  · have := h' i j (by simpa using hi) (by simpa using hj) hl
    rwa [List.getElem_map, List.getElem_map] at this
  · have := h' j i (by simpa using hj) (by simpa using hi) hl
    rw [List.getElem_map, List.getElem_map] at this
    exact this.symm

/-- One row's numbers are marked. -/
theorem mark_row {B E : Nat} {w w2 : World} {v : Value} {ys : List (Value × List Int)} {i k : Nat} (h : ISt B E w v ys) (hi : i < ys.length)
    (ho : w2.ownsRow B 2 1 ys[i].1 ys[i].2.length (marks k ys[i].2.length)) (hg : w.grownBy w2 ys[i].1.ownBlock) :
    ISt B E w2 v (ys.set i (ys[i].1, mkRow k ys[i].2.length)) ∧ Touch B E w w2 := by
  obtain ⟨h1, h2, h3, h4⟩ := h
  have hfst : (ys.set i (ys[i].1, mkRow k ys[i].2.length)).map Prod.fst = ys.map Prod.fst := by
    apply List.ext_getElem (by simp)
    intro j hj1 hj2
    by_cases e : i = j
    · subst e; simp
    · simp [List.getElem_set_ne e]
  have a1 : apart v ys[i].1 := h3 _ (List.getElem_mem hi)
  refine ⟨⟨?_, ?_, ?_, ?_⟩, Touch.of_grown hg fun q hq => ⟨((h2 _ (List.getElem_mem hi)).1.lt q hq).1, (h2 _ (List.getElem_mem hi)).2 q hq⟩⟩
  · rw [hfst, List.length_set]
    exact h1.far hg (apart.symm a1)
  · intro y hy
    obtain ⟨j, hj, rfl⟩ := List.getElem_of_mem hy
    rw [List.length_set] at hj
    by_cases e : i = j
    · subst e
      simp only [List.getElem_set_self, mkRow_len, mkRow_cells]
      exact ⟨ho, (h2 _ (List.getElem_mem hi)).2⟩
    · rw [List.getElem_set_ne e]
      exact (h2 _ (List.getElem_mem hj)).far hg (pair_apart h4 hi hj e)
  · intro y hy
    obtain ⟨j, hj, rfl⟩ := List.getElem_of_mem hy
    rw [List.length_set] at hj
    by_cases e : i = j
    · subst e; simpa using a1
    · rw [List.getElem_set_ne e]; exact h3 _ (List.getElem_mem hj)
  · rw [hfst]; exact h4

/-- One more row behind, made last of all; the row of rows perhaps anew. -/
theorem ISt.snoc {B E L F : Nat} {w w1 w2 : World} {v v' lv : Value} {ys : List (Value × List Int)} {x : List Int} (h : ISt B E w v ys) (hE : E ≤ L) (hLF : L ≤ F) (hBE : B ≤ E)
    (h1 : Below w.heap.size w w1) (hw : E ≤ w.heap.size) (hlv : OwnRow L F w1 2 1 lv x.length (x.map (Value.int .i64)))
    (hg : w1.grownBy w2 v.ownBlock) (hrow : w2.ownsRow B 63 1 v' (ys.length + 1) (ys.map Prod.fst ++ [lv]))
    (hat : v'.ownBlock = v.ownBlock ∨ ∃ q, v'.ownBlock = some q ∧ F ≤ q) : ISt B w2.heap.size w2 v' (ys ++ [(lv, x)]) := by
  obtain ⟨s1, s2, s3, s4⟩ := h
  have vlt : ∀ q, v.ownBlock = some q → q < E := s1.2
  have lvlt : ∀ q, lv.ownBlock = some q → L ≤ q ∧ q < F := fun q hq => ⟨(hlv.1.lt q hq).1, hlv.2 q hq⟩
  have olt : ∀ y ∈ ys, ∀ q, y.1.ownBlock = some q → q < E := fun y hy => (s2 y hy).2
  have avl : v.ownBlock = none ∨ v.ownBlock ≠ lv.ownBlock := by
    cases hv : v.ownBlock with
    | none => exact .inl rfl
    | some q => exact .inr fun e => by have := vlt q hv; have := (lvlt q e.symm).1; omega
  have hlv2 := hlv.far hg avl
  refine ⟨⟨?_, fun q hq => (hrow.lt q hq).2⟩, ?_, ?_, ?_⟩
  · rw [List.length_append, List.map_append]; simpa using hrow
  · intro y hy
    rcases List.mem_append.1 hy with hy | hy
    · have a := ((s2 y hy).mono h1).far hg (by
        cases hv : v.ownBlock with
        | none => exact .inl rfl
        | some q => exact .inr (by have := s3 y hy; rcases this with h | h
                                   · rw [hv] at h; cases h
                                   · rw [← hv]; exact h))
      exact ⟨a.1, fun q hq => (a.1.lt q hq).2⟩
    · simp only [List.mem_singleton] at hy
      subst hy
      exact ⟨owns_base hlv2.1 (by omega), fun q hq => (hlv2.1.lt q hq).2⟩
  · intro y hy
    cases hv' : v'.ownBlock with
    | none => exact .inl hv'
    | some p =>
      refine .inr ?_
      rw [hv']
      rcases List.mem_append.1 hy with hy | hy
      · rcases hat with h | ⟨q, h, hq⟩
        · have := s3 y hy
          rcases this with h2 | h2
          · rw [hv', h2] at h; cases h
          · rw [← hv', h]; exact h2
        · rw [hv'] at h; cases h
          intro e; have := olt y hy p e.symm; omega
      · simp only [List.mem_singleton] at hy
        subst hy
        simp only
        rcases hat with h | ⟨q, h, hq⟩
        · rw [hv'] at h
          intro e; have := vlt p h.symm; have := (lvlt p e.symm).1; omega
        · rw [hv'] at h; cases h
          intro e; have := (lvlt p e.symm).2; omega
  · rw [List.map_append, List.pairwise_append]
    refine ⟨s4, by simp, fun a ha b hb => ?_⟩
    simp only [List.map_cons, List.map_nil, List.mem_singleton] at hb
    subst hb
    obtain ⟨y, hy, rfl⟩ := List.mem_map.1 ha
    cases hv : y.1.ownBlock with
    | none => exact .inl hv
    | some q => exact .inr fun e => by rw [hv] at e; have := olt y hy q hv; have := (lvlt q e.symm).1; omega

theorem rows_snd (ys : List (Value × List Int)) (xs : List (List Int)) (i : Nat) (k : Nat) (hi : i < xs.length) (h : ys.map Prod.snd = (mkRows k xs).take i ++ xs.drop i) (hy : i < ys.length) : ys[i].2 = xs[i] := by
  have e := congrArg (fun l => l[i]?) h
  simp only [List.getElem?_map] at e
  rw [List.getElem?_append_right (by simp; omega)] at e
  simp [hy, hi, mkRows_len, Nat.min_eq_left (show i ≤ xs.length by omega)] at e
  exact e
theorem rows_next (ys : List (Value × List Int)) (xs : List (List Int)) (i : Nat) (k : Nat) (hi : i < xs.length) (h : ys.map Prod.snd = (mkRows k xs).take i ++ xs.drop i) (v : Value) :
    (ys.set i (v, mkRow (k + lenSum xs i) xs[i].length)).map Prod.snd = (mkRows k xs).take (i + 1) ++ xs.drop (i + 1) := by
  have hl : i < (mkRows k xs).length := by rw [mkRows_len]; exact hi
  rw [List.map_set, h, List.take_succ_eq_append_getElem hl, mkRows_at k xs hi]
  rw [List.set_append_right _ _ (by simp; omega), List.length_take, Nat.min_eq_left (by omega), Nat.sub_self]
  rw [List.drop_eq_getElem_cons hi, List.set_cons_zero]; simp

set_option maxHeartbeats 2000000 in
theorem markIntss_any (B E : Nat) (v : Value) (xs : List (List Int)) (k : Nat) (w : World) (h : OwnIntss B E w v xs) (hk : k + sizeIntss xs ≤ 1000000000) (hml : xs.length ≤ 1000000000) :
    Calls Tryd.prog 20 #[v, .int .i64 k] w fun e w' => e = .returned (.int .i64 ↑(k + sizeIntss xs)) ∧ OwnIntss B E w' v (mkRows k xs) ∧ Touch B E w w' := by
  obtain ⟨ys0, hys0, hst0⟩ := OwnIntss.st.1 h
  have hlen : ys0.length = xs.length := by rw [← hys0]; simp
  obtain ⟨a, ca, rfl⟩ := h.form
  have HH := Lib.hid h
  clear h
  go_enter Tryd.func20, Tryd.ntmps20
  go_wp2_with fail
  go_loopw [1, 5] (fun l i wr => ∃ (j : Nat) (ys : List (Value × List Int)), j ≤ xs.length ∧ i = .int .i64 (j : Int) ∧ l = .int .i64 ↑(k + lenSum xs j) ∧ ys.map Prod.snd = (mkRows k xs).take j ++ xs.drop j ∧ ISt B E wr (.slice a xs.length ca) ys ∧ Touch B E w wr) (fun _ i _ => xs.length - (intOf i).toNat)
  case atStart => exact ⟨0, ys0, Nat.zero_le _, by go_num, by simp [lenSum], by simpa using hys0, hst0, Touch.refl _ _ _⟩
  case round =>
    obtain ⟨j, ys, hj, rfl, rfl, hys, hst, ht⟩ := hrel
    have hyl : ys.length = xs.length := by have := congrArg List.length hys; simp [mkRows_len] at this; omega
    have HY := Lib.hid hys; clear hys
    by_cases hlt : j < xs.length
    · have hyj : j < ys.length := by omega
      have ex := rows_snd ys xs j k hlt HY.out hyj
      have hsl := hst.1.sl
      obtain ⟨b1, o1, ea, c1⟩ := Sl.cells (show Sl wr (.slice a ys.length ca) ys.length (ys.map Prod.fst) by rw [hyl] at hsl ⊢; exact hsl) (by simp; omega)
      subst ea
      have d0 : wr.cell? ⟨b1, o1 + j, none⟩ = some ys[j].1 := c1 j _ (by simp [hyj])
      have hlv := hst.2.1 _ (List.getElem_mem hyj)
      obtain ⟨a1, c2, el⟩ := hlv.form
      have EL := Lib.hid el
      have hlv1 := hlv.1
      rw [ex] at hlv1
      have hst1 := Lib.hid (lenSum_step hlt)
      have hle := lenSum_le (xs := xs) (k := j + 1) (by omega)
      unfold sizeIntss at hk
      have hc := markInts_any ys[j].1 xs[j].length B 2 _ (k + lenSum xs j) wr hlv1 (by have := hst1.out; omega)
      rw [el] at d0
      have EX := Lib.hid ex
      have ST := Lib.hid hst
      have HYL := Lib.hid hyl
      clear c1 hlv hlv1 el ex hst hsl hyl hle
      go_wp2_with fail
      rw [← EL.out]
      refine hc.mono ?_
      rintro e w2 ⟨rfl, ho2, hg2⟩
      have mr := mark_row (k := k + lenSum xs j) ST.out hyj (by rw [EX.out]; simpa using ho2) hg2
      rw [EX.out] at mr
      have MR := Lib.hid mr
      clear mr hc ho2 hg2
      go_wp2
      go_roundw
      case rel => exact ⟨j + 1, ys.set j (ys[j].1, mkRow (k + lenSum xs j) xs[j].length), by omega, by go_num, by have := hst1.out; congr 1; omega, rows_next ys xs j k hlt HY.out _, MR.out.1, ht.trans MR.out.2⟩
      case measure => simp [intOf] <;> omega
    · obtain rfl : j = xs.length := by omega
      have hl : (mkRows k xs).length = xs.length := mkRows_len k xs
      go_wp2
      go_ret
      exact ⟨rfl, OwnIntss.st.2 ⟨ys, by rw [HY.out, List.drop_length, List.append_nil, List.take_of_length_le (by omega)], hst⟩, ht⟩

set_option maxHeartbeats 2000000 in
theorem heldIntss_any (v : Value) (xs : List (List Int)) (k : Nat) (w : World) (h : RdIntss w v (mkRows k xs)) (hk : k + sizeIntss xs ≤ 1000000000) (hml : xs.length ≤ 1000000000) :
    Calls Tryd.prog 21 #[v, .int .i64 k] w fun e w' => e = .returned (.int .i64 ↑(k + sizeIntss xs)) ∧ Below w.heap.size w w' := by
  have hl : (mkRows k xs).length = xs.length := mkRows_len k xs
  obtain ⟨a, ca, rfl, hm⟩ := h.form'
  have HL := Lib.hid hl
  rw [hl] at h ⊢
  clear hl hm
  go_enter Tryd.func21, Tryd.ntmps21
  go_wp2_with fail
  go_loopw [1, 5] (fun l i wr => ∃ j : Nat, j ≤ xs.length ∧ i = .int .i64 (j : Int) ∧ l = .int .i64 ↑(k + lenSum xs j) ∧ Below w.heap.size w wr) (fun _ i _ => xs.length - (intOf i).toNat)
  case atStart => exact ⟨0, Nat.zero_le _, by go_num, by simp [lenSum], Below.refl _ _⟩
  case round =>
    obtain ⟨j, hj, rfl, rfl, hb⟩ := hrel
    by_cases hlt : j < xs.length
    · have h' := h.mono hb
      rw [← HL.out] at h'
      obtain ⟨b1, o1, lv, c1, ea, hB, hA, hI⟩ := h'.at (k := j) (by rw [HL.out]; exact hlt)
      subst ea
      rw [mkRows_at k xs hlt, mkRow_len] at hA hI
      have hst1 := Lib.hid (lenSum_step hlt)
      have hle := lenSum_le (xs := xs) (k := j + 1) (by omega)
      unfold sizeIntss at hk
      have hsl : Sl wr (.slice lv xs[j].length c1) xs[j].length (marks (k + lenSum xs j) (xs[j].length * 1)) := by
        unfold Ints at hI
        rw [mkRow_len, mkRow_cells] at hI
        simpa using hI
      have hc := heldInts_any _ xs[j].length (k + lenSum xs j) wr hsl (by have := hst1.out; omega)
      clear hI hsl h' hle
      go_wp2_with fail
      refine hc.mono ?_
      rintro e w2 ⟨rfl, rfl⟩
      go_wp2
      go_roundw
      case rel => exact ⟨j + 1, by omega, by go_num, by have := hst1.out; congr 1; omega, hb⟩
      case measure => simp [intOf] <;> omega
    · obtain rfl : j = xs.length := by omega
      go_wp2
      go_ret
      exact ⟨rfl, hb⟩

def MkIntss (B E : Nat) (w : World) (v : Value) (x : List (List Int)) (k : Int) : Prop := OwnIntss B E w v (mkRows k.toNat x)
section
variable {B E B' E' : Nat} {w w' : World} {v : Value} {x : List (List Int)} {k : Int}
theorem MkIntss.mono (h : MkIntss B E w v x k) (hb : Below w.heap.size w w') : MkIntss B E w' v x k := OwnIntss.mono h hb
theorem MkIntss.touch (h : MkIntss B E w v x k) (t : Touch B' E' w w') (hd : E ≤ B' ∨ E' ≤ B) : MkIntss B E w' v x k := OwnIntss.touch h t hd
end
theorem markIntssK (B E : Nat) (v : Value) (x : List (List Int)) (k : Int) (w : World) (h : OwnIntss B E w v x) (h0 : 0 ≤ k) (hk : k + sizeIntss x ≤ 1000000000 ∧ x.length ≤ 1000000000) :
    Calls Tryd.prog 20 #[v, .int .i64 k] w fun e w' => e = .returned (.int .i64 (k + sizeIntss x)) ∧ MkIntss B E w' v x k ∧ Touch B E w w' := by
  obtain ⟨j, rfl⟩ := Int.eq_ofNat_of_zero_le h0
  exact (markIntss_any B E v x j w h (by omega) hk.2).mono fun e w' ⟨he, ho, ht⟩ => ⟨by rw [he]; rfl, ho, ht⟩
theorem heldIntssK (B E : Nat) (v : Value) (x : List (List Int)) (k : Int) (w : World) (h : MkIntss B E w v x k) (h0 : 0 ≤ k) (hk : k + sizeIntss x ≤ 1000000000 ∧ x.length ≤ 1000000000) :
    Calls Tryd.prog 21 #[v, .int .i64 k] w fun e w' => e = .returned (.int .i64 (k + sizeIntss x)) ∧ Below w.heap.size w w' := by
  obtain ⟨j, rfl⟩ := Int.eq_ofNat_of_zero_le h0
  exact (heldIntss_any v x j w h.rd (by omega) hk.2).mono fun e w' ⟨he, hb⟩ => ⟨by rw [he]; rfl, hb⟩

end Go.Proofs.YtgdfecnpkjnhnaaDoor
