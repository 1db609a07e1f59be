import Derived.Test.YtenedpboehkmjaaGreatSpZ8
import Derived.Test.YtenedpboehkmjaaGreatSpZ2
import Derived.Test.YtenedpboehkmjaaGreatSpZ6
/- The laws' marks on a row of rows of numbers, and a row of rows that grows. -/
set_option linter.unusedSimpArgs false
set_option linter.unnecessarySimpa false
set_option linter.unusedVariables false
set_option maxRecDepth 100000
namespace Go.Proofs.YtenedpboehkmjaaGreat
open Go.RowKit

def mkRow (k n : Nat) : List Int := (List.range n).map fun i => ((k + i : Nat) : Int)
theorem mkRow_len (k n : Nat) : (mkRow k n).length = n := by simp [mkRow]
theorem mkRow_cells (k n : Nat) : (mkRow k n).map (Value.int .i64) = marks k n := by simp [mkRow, marks]
def mkRows (k : Nat) (xs : List (List Int)) : List (List Int) := (List.range xs.length).map fun j => mkRow (k + lenSum xs j) ((xs[j]?.map List.length).getD 0)
theorem mkRows_len (k : Nat) (xs : List (List Int)) : (mkRows k xs).length = xs.length := by simp [mkRows]
theorem mkRows_at (k : Nat) (xs : List (List Int)) {j : Nat} (h : j < xs.length) : (mkRows k xs)[j]'(by rw [mkRows_len]; exact h) = mkRow (k + lenSum xs j) xs[j].length := by simp [mkRows, h]
def sizeIntss (xs : List (List Int)) : Nat := lenSum xs xs.length

theorem OwnRow.far {B E : Nat} {w w' : World} {e : TypeId} {size n : Nat} {u : Value} {cs : List Value} (h : OwnRow B E w e size u n cs) {b : Option Nat} (hg : w.grownBy w' b) (hb : b = none ∨ b ≠ u.ownBlock) : OwnRow B E w' e size u n cs := by
  refine ⟨⟨h.1.1, ?_⟩, h.2⟩
  rcases h.1.2 with h2 | ⟨g, cap, cur, rfl, b', c, d⟩
  · exact .inl h2
  · refine .inr ⟨g, cap, cur, rfl, b', (hg.block g (Array.getElem?_eq_some_iff.1 c).1 ?_).trans c, d⟩
    rcases hb with hb | hb
    · rw [hb]; simp
    · exact fun e => hb e.symm

/-- Rows that lie apart. -/
def ISt (B E : Nat) (w : World) (v : Value) (ys : List (Value × List Int)) : Prop := OwnRow B E w 22 1 v ys.length (ys.map Prod.fst) ∧
  (∀ y ∈ ys, OwnRow B E w 2 1 y.1 y.2.length (y.2.map (Value.int .i64))) ∧ (∀ y ∈ ys, apart v y.1) ∧ (ys.map Prod.fst).Pairwise apart
theorem OwnIntss.st {B E : Nat} {w : World} {v : Value} {xs : List (List Int)} : OwnIntss B E w v xs ↔ ∃ ys : List (Value × List Int), ys.map Prod.snd = xs ∧ ISt B E w v ys := Iff.rfl
theorem ISt.mono {B E : Nat} {w w' : World} {v : Value} {ys : List (Value × List Int)} (h : ISt B E w v ys) (hb : Below w.heap.size w w') : ISt B E w' v ys := ⟨h.1.mono hb, fun y hy => (h.2.1 y hy).mono hb, h.2.2⟩
theorem ISt.wide {B E B' E' : Nat} {w : World} {v : Value} {ys : List (Value × List Int)} (h : ISt B E w v ys) (hB : B' ≤ B) (hE : E ≤ E') : ISt B' E' w v ys := ⟨h.1.wide hB hE, fun y hy => (h.2.1 y hy).wide hB hE, h.2.2⟩
theorem ISt.nil (B E : Nat) (w : World) : ISt B E w (.slice none 0 0) [] := ⟨⟨owns_nil _ _ _ _, fun k hk => by simp [Value.ownBlock] at hk⟩, by simp, by simp, by simp⟩
theorem OwnIntss.nil (B E : Nat) (w : World) : OwnIntss B E w (.slice none 0 0) [] := ⟨[], rfl, ISt.nil B E w⟩

theorem pair_apart {ys : List (Value × List Int)} (h : (ys.map Prod.fst).Pairwise apart) {i j : Nat} (hi : i < ys.length) (hj : j < ys.length) (hne : i ≠ j) : apart ys[i].1 ys[j].1 := by
  have h' := List.pairwise_iff_getElem.1 h
  rcases Nat.lt_or_gt_of_ne hne with hl | hl
  · have := h' i j (by simpa using hi) (by simpa using hj) hl
    rwa [List.getElem_map, List.getElem_map] at this
  · have := h' j i (by simpa using hj) (by simpa using hi) hl
    rw [List.getElem_map, List.getElem_map] at this
    exact this.symm

/-- One row's numbers are marked. -/
theorem mark_row {B E : Nat} {w w2 : World} {v : Value} {ys : List (Value × List Int)} {i k : Nat} (h : ISt B E w v ys) (hi : i < ys.length)
    (ho : w2.ownsRow B 2 1 ys[i].1 ys[i].2.length (marks k ys[i].2.length)) (hg : w.grownBy w2 ys[i].1.ownBlock) :
    ISt B E w2 v (ys.set i (ys[i].1, mkRow k ys[i].2.length)) ∧ Touch B E w w2 := by
  obtain ⟨h1, h2, h3, h4⟩ := h
  have hfst : (ys.set i (ys[i].1, mkRow k ys[i].2.length)).map Prod.fst = ys.map Prod.fst := by
    apply List.ext_getElem (by simp)
    intro j hj1 hj2
    by_cases e : i = j
    · subst e; simp
    · simp [List.getElem_set_ne e]
  have a1 : apart v ys[i].1 := h3 _ (List.getElem_mem hi)
  refine ⟨⟨?_, ?_, ?_, ?_⟩, Touch.of_grown hg fun q hq => ⟨((h2 _ (List.getElem_mem hi)).1.lt q hq).1, (h2 _ (List.getElem_mem hi)).2 q hq⟩⟩
  · rw [hfst, List.length_set]
    exact h1.far hg (apart.symm a1)
  · intro y hy
    obtain ⟨j, hj, rfl⟩ := List.getElem_of_mem hy
    rw [List.length_set] at hj
    by_cases e : i = j
    · subst e
      simp only [List.getElem_set_self, mkRow_len, mkRow_cells]
      exact ⟨ho, (h2 _ (List.getElem_mem hi)).2⟩
    · rw [List.getElem_set_ne e]
      exact (h2 _ (List.getElem_mem hj)).far hg (pair_apart h4 hi hj e)
  · intro y hy
    obtain ⟨j, hj, rfl⟩ := List.getElem_of_mem hy
    rw [List.length_set] at hj
    by_cases e : i = j
    · subst e; simpa using a1
    · rw [List.getElem_set_ne e]; exact h3 _ (List.getElem_mem hj)
  · rw [hfst]; exact h4

/-- One more row behind, made last of all; the row of rows perhaps anew. -/
theorem ISt.snoc {B E L F : Nat} {w w1 w2 : World} {v v' lv : Value} {ys : List (Value × List Int)} {x : List Int} (h : ISt B E w v ys) (hE : E ≤ L) (hLF : L ≤ F) (hBE : B ≤ E)
    (h1 : Below w.heap.size w w1) (hw : E ≤ w.heap.size) (hlv : OwnRow L F w1 2 1 lv x.length (x.map (Value.int .i64)))
    (hg : w1.grownBy w2 v.ownBlock) (hrow : w2.ownsRow B 22 1 v' (ys.length + 1) (ys.map Prod.fst ++ [lv]))
    (hat : v'.ownBlock = v.ownBlock ∨ ∃ q, v'.ownBlock = some q ∧ F ≤ q) : ISt B w2.heap.size w2 v' (ys ++ [(lv, x)]) := by
  obtain ⟨s1, s2, s3, s4⟩ := h
  have vlt : ∀ q, v.ownBlock = some q → q < E := s1.2
  have lvlt : ∀ q, lv.ownBlock = some q → L ≤ q ∧ q < F := fun q hq => ⟨(hlv.1.lt q hq).1, hlv.2 q hq⟩
  have olt : ∀ y ∈ ys, ∀ q, y.1.ownBlock = some q → q < E := fun y hy => (s2 y hy).2
  have avl : v.ownBlock = none ∨ v.ownBlock ≠ lv.ownBlock := by
    cases hv : v.ownBlock with
    | none => exact .inl rfl
    | some q => exact .inr fun e => by have := vlt q hv; have := (lvlt q e.symm).1; omega
  have hlv2 := hlv.far hg avl
  refine ⟨⟨?_, fun q hq => (hrow.lt q hq).2⟩, ?_, ?_, ?_⟩
  · rw [List.length_append, List.map_append]; simpa using hrow
  · intro y hy
    rcases List.mem_append.1 hy with hy | hy
    · have a := ((s2 y hy).mono h1).far hg (by
        cases hv : v.ownBlock with
        | none => exact .inl rfl
        | some q => exact .inr (by have := s3 y hy; rcases this with h | h
                                   · rw [hv] at h; cases h
                                   · rw [← hv]; exact h))
      exact ⟨a.1, fun q hq => (a.1.lt q hq).2⟩
    · simp only [List.mem_singleton] at hy
      subst hy
      exact ⟨owns_base hlv2.1 (by omega), fun q hq => (hlv2.1.lt q hq).2⟩
  · intro y hy
    cases hv' : v'.ownBlock with
    | none => exact .inl hv'
    | some p =>
      refine .inr ?_
      rw [hv']
      rcases List.mem_append.1 hy with hy | hy
      · rcases hat with h | ⟨q, h, hq⟩
        · have := s3 y hy
          rcases this with h2 | h2
          · rw [hv', h2] at h; cases h
          · rw [← hv', h]; exact h2
        · rw [hv'] at h; cases h
          intro e; have := olt y hy p e.symm; omega
      · simp only [List.mem_singleton] at hy
        subst hy
        simp only
        rcases hat with h | ⟨q, h, hq⟩
        · rw [hv'] at h
          intro e; have := vlt p h.symm; have := (lvlt p e.symm).1; omega
        · rw [hv'] at h; cases h
          intro e; have := (lvlt p e.symm).2; omega
  · rw [List.map_append, List.pairwise_append]
    refine ⟨s4, by simp, fun a ha b hb => ?_⟩
    simp only [List.map_cons, List.map_nil, List.mem_singleton] at hb
    subst hb
    obtain ⟨y, hy, rfl⟩ := List.mem_map.1 ha
    cases hv : y.1.ownBlock with
    | none => exact .inl hv
    | some q => exact .inr fun e => by rw [hv] at e; have := olt y hy q hv; have := (lvlt q e.symm).1; omega

theorem rows_snd (ys : List (Value × List Int)) (xs : List (List Int)) (i : Nat) (k : Nat) (hi : i < xs.length) (h : ys.map Prod.snd = (mkRows k xs).take i ++ xs.drop i) (hy : i < ys.length) : ys[i].2 = xs[i] := by
  have e := congrArg (fun l => l[i]?) h
  simp only [List.getElem?_map] at e
  rw [List.getElem?_append_right (by simp; omega)] at e
  simp [hy, hi, mkRows_len, Nat.min_eq_left (show i ≤ xs.length by omega)] at e
  exact e
theorem rows_next (ys : List (Value × List Int)) (xs : List (List Int)) (i : Nat) (k : Nat) (hi : i < xs.length) (h : ys.map Prod.snd = (mkRows k xs).take i ++ xs.drop i) (v : Value) :
    (ys.set i (v, mkRow (k + lenSum xs i) xs[i].length)).map Prod.snd = (mkRows k xs).take (i + 1) ++ xs.drop (i + 1) := by
  have hl : i < (mkRows k xs).length := by rw [mkRows_len]; exact hi
  rw [List.map_set, h, List.take_succ_eq_append_getElem hl, mkRows_at k xs hi]
  rw [List.set_append_right _ _ (by simp; omega), List.length_take, Nat.min_eq_left (by omega), Nat.sub_self]
  rw [List.drop_eq_getElem_cons hi, List.set_cons_zero]; simp

set_option maxHeartbeats 2000000 in
theorem markIntss_any (B E : Nat) (v : Value) (xs : List (List Int)) (k : Nat) (w : World) (h : OwnIntss B E w v xs) (hk : k + sizeIntss xs ≤ 1000000000) (hml : xs.length ≤ 1000000000) :
    Calls Tryz.prog 39 #[v, .int .i64 k] w fun e w' => e = .returned (.int .i64 ↑(k + sizeIntss xs)) ∧ OwnIntss B E w' v (mkRows k xs) ∧ Touch B E w w' := by
  obtain ⟨ys0, hys0, hst0⟩ := OwnIntss.st.1 h
  have hlen : ys0.length = xs.length := by rw [← hys0]; simp
  obtain ⟨a, ca, rfl⟩ := h.form
  have HH := Lib.hid h
  clear h
  go_enter Tryz.func39, Tryz.ntmps39
  go_wp2_with fail
  go_loopw [1, 5] (fun l i wr => ∃ (j : Nat) (ys : List (Value × List Int)), j ≤ xs.length ∧ i = .int .i64 (j : Int) ∧ l = .int .i64 ↑(k + lenSum xs j) ∧ ys.map Prod.snd = (mkRows k xs).take j ++ xs.drop j ∧ ISt B E wr (.slice a xs.length ca) ys ∧ Touch B E w wr) (fun _ i _ => xs.length - (intOf i).toNat)
  case atStart => exact ⟨0, ys0, Nat.zero_le _, by go_num, by simp [lenSum], by simpa using hys0, hst0, Touch.refl _ _ _⟩
  case round =>
    obtain ⟨j, ys, hj, rfl, rfl, hys, hst, ht⟩ := hrel
    have hyl : ys.length = xs.length := by have := congrArg List.length hys; simp [mkRows_len] at this; omega
    have HY := Lib.hid hys; clear hys
    by_cases hlt : j < xs.length
    · have hyj : j < ys.length := by omega
      have ex := rows_snd ys xs j k hlt HY.out hyj
      have hsl := hst.1.sl
      obtain ⟨b1, o1, ea, c1⟩ := Sl.cells (show Sl wr (.slice a ys.length ca) ys.length (ys.map Prod.fst) by rw [hyl] at hsl ⊢; exact hsl) (by simp; omega)
      subst ea
      have d0 : wr.cell? ⟨b1, o1 + j, none⟩ = some ys[j].1 := c1 j _ (by simp [hyj])
      have hlv := hst.2.1 _ (List.getElem_mem hyj)
      obtain ⟨a1, c2, el⟩ := hlv.form
      have EL := Lib.hid el
      have hlv1 := hlv.1
      rw [ex] at hlv1
      have hst1 := Lib.hid (lenSum_step hlt)
      have hle := lenSum_le (xs := xs) (k := j + 1) (by omega)
      unfold sizeIntss at hk
      have hc := markInts_any ys[j].1 xs[j].length B 2 _ (k + lenSum xs j) wr hlv1 (by have := hst1.out; omega)
      rw [el] at d0
      have EX := Lib.hid ex
      have ST := Lib.hid hst
      have HYL := Lib.hid hyl
      clear c1 hlv hlv1 el ex hst hsl hyl hle
      go_wp2_with fail
      rw [← EL.out]
      refine hc.mono ?_
      rintro e w2 ⟨rfl, ho2, hg2⟩
      have mr := mark_row (k := k + lenSum xs j) ST.out hyj (by rw [EX.out]; simpa using ho2) hg2
      rw [EX.out] at mr
      have MR := Lib.hid mr
      clear mr hc ho2 hg2
      go_wp2
      go_roundw
      case rel => exact ⟨j + 1, ys.set j (ys[j].1, mkRow (k + lenSum xs j) xs[j].length), by omega, by go_num, by have := hst1.out; congr 1; omega, rows_next ys xs j k hlt HY.out _, MR.out.1, ht.trans MR.out.2⟩
      case measure => simp [intOf] <;> omega
    · obtain rfl : j = xs.length := by omega
      have hl : (mkRows k xs).length = xs.length := mkRows_len k xs
      go_wp2
      go_ret
      exact ⟨rfl, OwnIntss.st.2 ⟨ys, by rw [HY.out, List.drop_length, List.append_nil, List.take_of_length_le (by omega)], hst⟩, ht⟩

def MkIntss (B E : Nat) (w : World) (v : Value) (x : List (List Int)) (k : Int) : Prop := OwnIntss B E w v (mkRows k.toNat x)
section
variable {B E B' E' : Nat} {w w' : World} {v : Value} {x : List (List Int)} {k : Int}
theorem MkIntss.mono (h : MkIntss B E w v x k) (hb : Below w.heap.size w w') : MkIntss B E w' v x k := OwnIntss.mono h hb
theorem MkIntss.touch (h : MkIntss B E w v x k) (t : Touch B' E' w w') (hd : E ≤ B' ∨ E' ≤ B) : MkIntss B E w' v x k := OwnIntss.touch h t hd
end
theorem markIntssK (B E : Nat) (v : Value) (x : List (List Int)) (k : Int) (w : World) (h : OwnIntss B E w v x) (h0 : 0 ≤ k) (hk : k + sizeIntss x ≤ 1000000000 ∧ x.length ≤ 1000000000) :
    Calls Tryz.prog 39 #[v, .int .i64 k] w fun e w' => e = .returned (.int .i64 (k + sizeIntss x)) ∧ MkIntss B E w' v x k ∧ Touch B E w w' := by
  obtain ⟨j, rfl⟩ := Int.eq_ofNat_of_zero_le h0
  exact (markIntss_any B E v x j w h (by omega) hk.2).mono fun e w' ⟨he, ho, ht⟩ => ⟨by rw [he]; rfl, ho, ht⟩
end Go.Proofs.YtenedpboehkmjaaGreat
/- The laws' helpers over one model: zones, weights, base. -/
set_option linter.unusedSimpArgs false
set_option linter.unnecessarySimpa false
set_option linter.unusedVariables false
set_option maxRecDepth 100000
namespace Go.Proofs.YtenedpboehkmjaaGreat
open Go.RowKit

structure ModD where
  zones : List Int
  weights : List (List Int)
  base : List Int
  deriving DecidableEq
def RdModD (w : World) (v : Value) (x : ModD) : Prop := ∃ z g b, v = .agg #[z, g, b] ∧ Ints w z x.zones ∧ RdIntss w g x.weights ∧ Ints w b x.base
def okModD (x : ModD) : Prop := (∀ n ∈ x.zones, I64 n) ∧ okIntss x.weights ∧ (∀ n ∈ x.base, I64 n)
def szModD (x : ModD) : Nat := x.zones.length + szIntss x.weights + x.base.length
def OwnModD (B E : Nat) (w : World) (v : Value) (x : ModD) : Prop := ∃ z g b M N L, v = .agg #[z, g, b] ∧ B ≤ M ∧ M ≤ N ∧ N ≤ L ∧ L ≤ E ∧ L ≤ w.heap.size ∧ OwnInts B M w z x.zones ∧ OwnIntss M N w g x.weights ∧ OwnInts N L w b x.base
def sizeModD (x : ModD) : Nat := x.zones.length + sizeIntss x.weights + x.base.length
section
variable {B E B' E' : Nat} {w w' : World} {v : Value} {x : ModD}
theorem RdModD.mono (h : RdModD w v x) (hb : Below w.heap.size w w') : RdModD w' v x := by
  obtain ⟨z, g, b, e, h1, h2, h3⟩ := h
  exact ⟨z, g, b, e, Ints.mono h1 hb, h2.mono hb, Ints.mono h3 hb⟩
theorem OwnModD.mono (h : OwnModD B E w v x) (hb : Below w.heap.size w w') : OwnModD B E w' v x := by
  obtain ⟨z, g, b, M, N, L, e, m1, m2, m3, m4, m5, h1, h2, h3⟩ := h
  exact ⟨z, g, b, M, N, L, e, m1, m2, m3, m4, Nat.le_trans m5 hb.size, h1.mono hb, h2.mono hb, h3.mono hb⟩
theorem OwnModD.touch (h : OwnModD B E w v x) (t : Touch B' E' w w') (hd : E ≤ B' ∨ E' ≤ B) : OwnModD B E w' v x := by
  obtain ⟨z, g, b, M, N, L, e, m1, m2, m3, m4, m5, h1, h2, h3⟩ := h
  exact ⟨z, g, b, M, N, L, e, m1, m2, m3, m4, Nat.le_trans m5 t.size, h1.touch t (by omega), h2.touch t (by omega), h3.touch t (by omega)⟩
theorem OwnModD.rd (h : OwnModD B E w v x) : RdModD w v x := by
  obtain ⟨z, g, b, M, N, L, e, m1, m2, m3, m4, m5, h1, h2, h3⟩ := h
  exact ⟨z, g, b, e, h1.rd, h2.rd, h3.rd⟩
theorem OwnModD.form (h : OwnModD B E w v x) : ∃ a1 c1 a2 c2 a3 c3, v = .agg #[.slice a1 x.zones.length c1, .slice a2 x.weights.length c2, .slice a3 x.base.length c3] := by
  obtain ⟨z, g, b, M, N, L, rfl, m1, m2, m3, m4, m5, h1, h2, h3⟩ := h
  obtain ⟨a1, c1, rfl⟩ := h1.form
  obtain ⟨a2, c2, rfl⟩ := h2.form
  obtain ⟨a3, c3, rfl⟩ := h3.form
  exact ⟨a1, c1, a2, c2, a3, c3, rfl⟩
theorem OwnModD.wide (h : OwnModD B E w v x) (hB : B' ≤ B) (hE : E ≤ E') : OwnModD B' E' w v x := by
  obtain ⟨z, g, b, M, N, L, e, m1, m2, m3, m4, m5, h1, h2, h3⟩ := h
  exact ⟨z, g, b, M, N, L, e, by omega, m2, m3, by omega, m5, h1.wide hB (Nat.le_refl _), h2, h3⟩
end

set_option maxHeartbeats 2000000 in
theorem toModDK (v : Value) (x : ModD) (w : World) (h : RdModD w v x) (hs : szModD x ≤ 1048576) :
    Calls Tryz.prog 7 #[v] w fun e w' => ∃ v', e = .returned v' ∧ OwnModD w.heap.size w'.heap.size w' v' x ∧ Below w.heap.size w w' := by
  obtain ⟨z, g, b, rfl, h1, h2, h3⟩ := h
  have H1 := Lib.hid h1; have H2 := Lib.hid h2; have H3 := Lib.hid h3
  have HS := Lib.hid hs
  obtain ⟨az, cz, rfl, _⟩ := id h1
  obtain ⟨ag, cg, rfl⟩ := h2.form
  obtain ⟨ab, cb, rfl, _⟩ := id h3
  clear h1 h2 h3 hs
  go_enter Tryz.func7, Tryz.ntmps7
  go_wp2_with fail
  have hz1 : x.zones.length ≤ 1048576 := by have := HS.out; unfold szModD at this; omega
  have hz2 : szIntss x.weights ≤ 1048576 := by have := HS.out; unfold szModD at this; omega
  have hz3 : x.base.length ≤ 1048576 := by have := HS.out; unfold szModD at this; omega
  obtain ⟨wA, hA⟩ : ∃ wA, wA = ((w.alloc (.cells #[.slice az x.zones.length cz, .slice ag x.weights.length cg, .slice ab x.base.length cb] 25)).alloc (.cells #[.slice none 0 0, .slice none 0 0, .slice none 0 0] 38)).alloc (.cells #[.slice none 0 0, .slice none 0 0, .slice none 0 0] 38) := ⟨_, rfl⟩
  rw [← hA]
  have hbA : Below w.heap.size w wA := by rw [hA]; (repeat (first | with_reducible exact Below.refl _ _ | with_reducible exact hbw | (with_reducible refine Below.setCell ?_ ?_ _; rotate_left; · first | exact Nat.le_refl _ | omega | (simp; done) | (simp; omega)) | (with_reducible refine Below.alloc ?_ ?_ _; rotate_left; · first | exact Nat.le_refl _ | omega | (simp; done) | (simp; omega)) | with_reducible refine below_drewN ?_ _ | with_reducible refine Below.drew ?_))
  have B1 : Box wA w.heap.size [.slice az x.zones.length cz, .slice ag x.weights.length cg, .slice ab x.base.length cb] := by
    rw [hA]; exact ((Box.alloc w _ _ _ rfl).mono (belowA _ _)).mono (belowA _ _)
  have B2 : Box wA (w.heap.size + 1) [.slice none 0 0, .slice none 0 0, .slice none 0 0] := by
    rw [hA]; exact (Box.alloc _ _ _ _ (by simp)).mono (belowA _ _)
  have B3 : Box wA (w.heap.size + 1 + 1) [.slice none 0 0, .slice none 0 0, .slice none 0 0] := by
    rw [hA]; exact Box.alloc _ _ _ _ (by simp)
  have hzA : wA.heap.size = w.heap.size + 1 + 1 + 1 := by rw [hA]; simp
  have HZA := Lib.hid hzA
  clear hA hzA
  refine (toIntsK _ x.zones _ (RdInts.mono H1.out hbA) hz1).mono ?_
  rintro e w1 ⟨v1, rfl, ho1, hb1⟩
  obtain ⟨a1, k1, rfl⟩ := ho1.form
  have HO1 := Lib.hid ho1
  have HB1 := Lib.hid (hbA.trans (hb1.mono hbA.size))
  have hs1 := hb1.size
  replace B1 := B1.mono hb1
  replace B2 := B2.mono hb1
  replace B3 := B3.mono hb1
  clear ho1 hb1 hbA
  have c1 := B1.at' 1 _ rfl
  have d0 := B3.at' 0 _ rfl
  have f0 := B3.fr 0
  have l3 := B3.lt
  go_wp2_with fail
  obtain ⟨u1, hu1⟩ : ∃ u1, u1 = w1.setCell ⟨w.heap.size + 1 + 1, 0, none⟩ (.slice a1 x.zones.length k1) := ⟨_, rfl⟩
  rw [← hu1]
  have t1 : Touch (w.heap.size + 1 + 1) (w.heap.size + 1 + 1 + 1) w1 u1 := by rw [hu1]; (repeat (first | with_reducible exact Touch.refl _ _ _ | with_reducible exact htc | (with_reducible refine Touch.setCell ?_ ?_ _; rotate_left; · (simp only; omega)) | (with_reducible refine Touch.setNew ?_ ?_ _; rotate_left; · (first | (simp only; omega) | (simp; done) | (simp; omega))) | with_reducible refine Touch.alloc ?_ _ | with_reducible refine Touch.drewN ?_ _ | with_reducible refine Touch.drew ?_))
  replace B3 := B3.set (.slice a1 x.zones.length k1) (j := 0) (by simp)
  rw [← hu1] at B3
  simp only [List.set_cons_zero] at B3
  replace B1 := B1.touch t1 (.inl (by omega))
  replace B2 := B2.touch t1 (.inl (by omega))
  replace HB1 := Lib.hid (t1.below HB1.out (by omega) HB1.out.size)
  replace HO1 := Lib.hid (HO1.out.touch t1 (.inr (by have := HZA.out; omega)))
  have hs1' := t1.size
  clear c1 d0 f0 l3 hu1 t1
  refine (toIntssK _ x.weights _ (H2.out.mono HB1.out) hz2).mono ?_
  rintro e w2 ⟨v2, rfl, ho2, hb2⟩
  obtain ⟨a2, k2, rfl⟩ := ho2.form
  have HO2 := Lib.hid ho2
  replace HB1 := Lib.hid (HB1.out.trans (hb2.mono HB1.out.size))
  replace HO1 := Lib.hid (HO1.out.mono hb2)
  have hs2 := hb2.size
  replace B1 := B1.mono hb2
  replace B2 := B2.mono hb2
  replace B3 := B3.mono hb2
  clear ho2 hb2
  have c2 := B1.at' 2 _ rfl
  have d1 := B3.at' 1 _ rfl
  have f1 := B3.fr 1
  have l3 := B3.lt
  go_wp2_with fail
  obtain ⟨u2, hu2⟩ : ∃ u2, u2 = w2.setCell ⟨w.heap.size + 1 + 1, 1, none⟩ (.slice a2 x.weights.length k2) := ⟨_, rfl⟩
  rw [← hu2]
  have t2 : Touch (w.heap.size + 1 + 1) (w.heap.size + 1 + 1 + 1) w2 u2 := by rw [hu2]; (repeat (first | with_reducible exact Touch.refl _ _ _ | with_reducible exact htc | (with_reducible refine Touch.setCell ?_ ?_ _; rotate_left; · (simp only; omega)) | (with_reducible refine Touch.setNew ?_ ?_ _; rotate_left; · (first | (simp only; omega) | (simp; done) | (simp; omega))) | with_reducible refine Touch.alloc ?_ _ | with_reducible refine Touch.drewN ?_ _ | with_reducible refine Touch.drew ?_))
  replace B3 := B3.set (.slice a2 x.weights.length k2) (j := 1) (by simp)
  rw [← hu2] at B3
  simp only [List.set_cons_zero, List.set_cons_succ] at B3
  replace B2 := B2.touch t2 (.inl (by omega))
  replace HB1 := Lib.hid (t2.below HB1.out (by omega) HB1.out.size)
  replace HO1 := Lib.hid (HO1.out.touch t2 (.inr (by have := HZA.out; omega)))
  replace HO2 := Lib.hid (HO2.out.touch t2 (.inr (by have := HZA.out; omega)))
  have hs2' := t2.size
  clear B1 c2 d1 f1 l3 hu2 t2
  refine (toIntsK _ x.base _ (RdInts.mono H3.out HB1.out) hz3).mono ?_
  rintro e w3 ⟨v3, rfl, ho3, hb3⟩
  obtain ⟨a3, k3, rfl⟩ := ho3.form
  have HO3 := Lib.hid ho3
  replace HB1 := Lib.hid (HB1.out.trans (hb3.mono HB1.out.size))
  replace HO1 := Lib.hid (HO1.out.mono hb3)
  replace HO2 := Lib.hid (HO2.out.mono hb3)
  have hs3 := hb3.size
  replace B2 := B2.mono hb3
  replace B3 := B3.mono hb3
  clear ho3 hb3
  have c0 := B3.at' 0 _ rfl
  have c1 := B3.at' 1 _ rfl
  have c2 := B3.at' 2 _ rfl
  have f2 := B3.fr 2
  have l3 := B3.lt
  have e0 := B2.at' 0 _ rfl
  have e1 := B2.at' 1 _ rfl
  have e2 := B2.at' 2 _ rfl
  have g0 := B2.fr 0
  have g1 := B2.fr 1
  have g2 := B2.fr 2
  have l2 := B2.lt
  go_wp2
  refine bodyPost_ret (v := .agg #[.slice a1 x.zones.length k1, .slice a2 x.weights.length k2, .slice a3 x.base.length k3]) (by simp [results, Tryz.results7, go_sem, c0, c1, c2, f2, l3, e0, e1, e2, g0, g1, g2, l2]) rfl ⟨_, rfl, ⟨_, _, _, w1.heap.size, w2.heap.size, _, rfl, ?_, ?_, ?_, Nat.le_refl _, Nat.le_refl _, ?_, ?_, ?_⟩, ?_⟩
  · have := HZA.out; omega
  · omega
  · simp; omega
  · refine (HO1.out.touch (B' := w.heap.size + 1) (E' := w.heap.size + 1 + 1 + 1) (by (repeat (first | with_reducible exact Touch.refl _ _ _ | with_reducible exact htc | (with_reducible refine Touch.setCell ?_ ?_ _; rotate_left; · (simp only; omega)) | (with_reducible refine Touch.setNew ?_ ?_ _; rotate_left; · (first | (simp only; omega) | (simp; done) | (simp; omega))) | with_reducible refine Touch.alloc ?_ _ | with_reducible refine Touch.drewN ?_ _ | with_reducible refine Touch.drew ?_))) (.inr (by have := HZA.out; omega))).wide (by have := HZA.out; omega) (Nat.le_refl _)
  · refine (HO2.out.touch (B' := w.heap.size + 1) (E' := w.heap.size + 1 + 1 + 1) (by (repeat (first | with_reducible exact Touch.refl _ _ _ | with_reducible exact htc | (with_reducible refine Touch.setCell ?_ ?_ _; rotate_left; · (simp only; omega)) | (with_reducible refine Touch.setNew ?_ ?_ _; rotate_left; · (first | (simp only; omega) | (simp; done) | (simp; omega))) | with_reducible refine Touch.alloc ?_ _ | with_reducible refine Touch.drewN ?_ _ | with_reducible refine Touch.drew ?_))) (.inr (by have := HZA.out; omega))).wide (by omega) (Nat.le_refl _)
  · refine (HO3.out.touch (B' := w.heap.size + 1) (E' := w.heap.size + 1 + 1 + 1) (by (repeat (first | with_reducible exact Touch.refl _ _ _ | with_reducible exact htc | (with_reducible refine Touch.setCell ?_ ?_ _; rotate_left; · (simp only; omega)) | (with_reducible refine Touch.setNew ?_ ?_ _; rotate_left; · (first | (simp only; omega) | (simp; done) | (simp; omega))) | with_reducible refine Touch.alloc ?_ _ | with_reducible refine Touch.drewN ?_ _ | with_reducible refine Touch.drew ?_))) (.inr (by have := HZA.out; omega))).wide (by omega) (by simp)
  · refine Touch.below (B := w.heap.size + 1) (E := w.heap.size + 1 + 1 + 1) (by (repeat (first | with_reducible exact Touch.refl _ _ _ | with_reducible exact htc | (with_reducible refine Touch.setCell ?_ ?_ _; rotate_left; · (simp only; omega)) | (with_reducible refine Touch.setNew ?_ ?_ _; rotate_left; · (first | (simp only; omega) | (simp; done) | (simp; omega))) | with_reducible refine Touch.alloc ?_ _ | with_reducible refine Touch.drewN ?_ _ | with_reducible refine Touch.drew ?_))) HB1.out (by omega) HB1.out.size

set_option maxHeartbeats 1000000 in
theorem eqModDK (v1 v2 : Value) (x : ModD) (w : World) (h1 : RdModD w v1 x) (h2 : RdModD w v2 x) :
    Calls Tryz.prog 12 #[v1, v2] w fun e w' => e = .returned (.bool true) ∧ Below w.heap.size w w' := by
  obtain ⟨z', g', b', rfl, k1, k2, k3⟩ := h2
  obtain ⟨z, g, b, rfl, h1, h2, h3⟩ := h1
  have H1 := Lib.hid h1; have H2 := Lib.hid h2; have H3 := Lib.hid h3
  have K1 := Lib.hid k1; have K2 := Lib.hid k2; have K3 := Lib.hid k3
  obtain ⟨az, cz, rfl, _⟩ := id h1
  obtain ⟨ag, cg, rfl⟩ := h2.form
  obtain ⟨ab, cb, rfl, _⟩ := id h3
  obtain ⟨az', cz', rfl, _⟩ := id k1
  obtain ⟨ag', cg', rfl⟩ := k2.form
  obtain ⟨ab', cb', rfl, _⟩ := id k3
  clear h1 h2 h3 k1 k2 k3
  go_enter Tryz.func12, Tryz.ntmps12
  go_wp2_with fail
  obtain ⟨wA, hA⟩ : ∃ wA, wA = (w.alloc (.cells #[.slice az x.zones.length cz, .slice ag x.weights.length cg, .slice ab x.base.length cb] 38)).alloc (.cells #[.slice az' x.zones.length cz', .slice ag' x.weights.length cg', .slice ab' x.base.length cb'] 38) := ⟨_, rfl⟩
  rw [← hA]
  have hbA : Below w.heap.size w wA := by rw [hA]; (repeat (first | with_reducible exact Below.refl _ _ | with_reducible exact hbw | (with_reducible refine Below.setCell ?_ ?_ _; rotate_left; · first | exact Nat.le_refl _ | omega | (simp; done) | (simp; omega)) | (with_reducible refine Below.alloc ?_ ?_ _; rotate_left; · first | exact Nat.le_refl _ | omega | (simp; done) | (simp; omega)) | with_reducible refine below_drewN ?_ _ | with_reducible refine Below.drew ?_))
  have B1 : Box wA w.heap.size [.slice az x.zones.length cz, .slice ag x.weights.length cg, .slice ab x.base.length cb] := by
    rw [hA]; exact (Box.alloc w _ _ _ rfl).mono (belowA _ _)
  have B2 : Box wA (w.heap.size + 1) [.slice az' x.zones.length cz', .slice ag' x.weights.length cg', .slice ab' x.base.length cb'] := by
    rw [hA]; exact Box.alloc _ _ _ _ (by simp)
  clear hA
  refine (eqIntsK _ _ x.zones _ (RdInts.mono H1.out hbA) (RdInts.mono K1.out hbA)).mono ?_
  rintro e w1 ⟨rfl, hq1⟩
  replace B1 := B1.mono hq1
  replace B2 := B2.mono hq1
  have HB1 := Lib.hid (hbA.trans (hq1.mono hbA.size))
  have c1 := B1.at' 1 _ rfl
  have d1 := B2.at' 1 _ rfl
  clear hbA hq1
  go_wp2_with fail
  refine (eqIntssK _ _ x.weights _ (H2.out.mono HB1.out) (K2.out.mono HB1.out)).mono ?_
  rintro e w2 ⟨rfl, hq2⟩
  replace B1 := B1.mono hq2
  replace B2 := B2.mono hq2
  replace HB1 := Lib.hid (HB1.out.trans (hq2.mono HB1.out.size))
  have c2 := B1.at' 2 _ rfl
  have d2 := B2.at' 2 _ rfl
  clear hq2 c1 d1
  go_wp2_with fail
  refine (eqIntsK _ _ x.base _ (RdInts.mono H3.out HB1.out) (RdInts.mono K3.out HB1.out)).mono ?_
  rintro e w3 ⟨rfl, hq3⟩
  replace HB1 := Lib.hid (HB1.out.trans (hq3.mono HB1.out.size))
  clear hq3 c2 d2 B1 B2
  go_wp2
  go_ret
  exact ⟨rfl, HB1.out⟩

/-- What is left of a size. -/
def leftModD (left : Int) (x : ModD) : Int := if left < szModD x then -1 else left - szModD x
set_option maxHeartbeats 1000000 in
theorem szModD_any (v : Value) (x : ModD) (left : Int) (w : World) (h : RdModD w v x) (ok : okModD x) (h0 : 0 ≤ left) (hl : left ≤ 1048576) :
    Calls Tryz.prog 4 #[v, .int .i64 left] w fun e w' => e = .returned (.int .i64 (leftModD left x)) ∧ Below w.heap.size w w' := by
  by_cases g1 : left < x.zones.length
  · have ER := Lib.hid (show leftModD left x = -1 from if_pos (by unfold szModD; omega))
    obtain ⟨z, g, b, rfl, h1, h2, h3⟩ := h
    have H1 := Lib.hid h1; have H2 := Lib.hid h2; have H3 := Lib.hid h3
    have HO := Lib.hid ok
    obtain ⟨az, cz, rfl, _⟩ := id h1
    obtain ⟨ag, cg, rfl⟩ := h2.form
    obtain ⟨ab, cb, rfl, _⟩ := id h3
    clear h1 h2 h3 ok
    go_enter Tryz.func4, Tryz.ntmps4
    go_wp2_with fail
    obtain ⟨wA, hA⟩ : ∃ wA, wA = w.alloc (.cells #[.slice az x.zones.length cz, .slice ag x.weights.length cg, .slice ab x.base.length cb] 25) := ⟨_, rfl⟩
    rw [← hA]
    have hbA : Below w.heap.size w wA := by rw [hA]; (repeat (first | with_reducible exact Below.refl _ _ | with_reducible exact hbw | (with_reducible refine Below.setCell ?_ ?_ _; rotate_left; · first | exact Nat.le_refl _ | omega | (simp; done) | (simp; omega)) | (with_reducible refine Below.alloc ?_ ?_ _; rotate_left; · first | exact Nat.le_refl _ | omega | (simp; done) | (simp; omega)) | with_reducible refine below_drewN ?_ _ | with_reducible refine Below.drew ?_))
    have B1 : Box wA w.heap.size [.slice az x.zones.length cz, .slice ag x.weights.length cg, .slice ab x.base.length cb] := by
      rw [hA]; exact Box.alloc w _ _ _ rfl
    clear hA
    have c1 := B1.at' 1 _ rfl
    have HBA := Lib.hid hbA
    clear hbA
    refine (szInts_any _ x.zones (-1) left _ (Ints.mono H1.out HBA.out) h0 hl (if_pos (by omega)).symm).mono ?_
    rintro e w1 ⟨rfl, rfl⟩
    go_wp2
    go_ret
    exact ⟨by rw [ER.out]; rfl, HBA.out⟩
  · have e1 : ¬ left - (x.zones.length : Int) < 0 := by omega
    by_cases g2 : left - x.zones.length < szIntss x.weights
    · have ER := Lib.hid (show leftModD left x = -1 from if_pos (by unfold szModD; omega))
      obtain ⟨z, g, b, rfl, h1, h2, h3⟩ := h
      have H1 := Lib.hid h1; have H2 := Lib.hid h2; have H3 := Lib.hid h3
      have HO := Lib.hid ok
      obtain ⟨az, cz, rfl, _⟩ := id h1
      obtain ⟨ag, cg, rfl⟩ := h2.form
      obtain ⟨ab, cb, rfl, _⟩ := id h3
      clear h1 h2 h3 ok
      go_enter Tryz.func4, Tryz.ntmps4
      go_wp2_with fail
      obtain ⟨wA, hA⟩ : ∃ wA, wA = w.alloc (.cells #[.slice az x.zones.length cz, .slice ag x.weights.length cg, .slice ab x.base.length cb] 25) := ⟨_, rfl⟩
      rw [← hA]
      have hbA : Below w.heap.size w wA := by rw [hA]; (repeat (first | with_reducible exact Below.refl _ _ | with_reducible exact hbw | (with_reducible refine Below.setCell ?_ ?_ _; rotate_left; · first | exact Nat.le_refl _ | omega | (simp; done) | (simp; omega)) | (with_reducible refine Below.alloc ?_ ?_ _; rotate_left; · first | exact Nat.le_refl _ | omega | (simp; done) | (simp; omega)) | with_reducible refine below_drewN ?_ _ | with_reducible refine Below.drew ?_))
      have B1 : Box wA w.heap.size [.slice az x.zones.length cz, .slice ag x.weights.length cg, .slice ab x.base.length cb] := by
        rw [hA]; exact Box.alloc w _ _ _ rfl
      clear hA
      have c1 := B1.at' 1 _ rfl
      have HBA := Lib.hid hbA
      clear hbA
      refine (szInts_any _ x.zones (left - x.zones.length) left _ (Ints.mono H1.out HBA.out) h0 hl (if_neg (by omega)).symm).mono ?_
      rintro e w1 ⟨rfl, rfl⟩
      go_wp2_with fail
      refine (szIntssN _ x.weights (left - x.zones.length) _ (H2.out.mono HBA.out) HO.out.2.1 (by omega) (by omega) g2).mono ?_
      rintro e w2 ⟨rfl, hb2⟩
      have HB2 := Lib.hid (HBA.out.trans (hb2.mono HBA.out.size))
      go_wp2
      go_ret
      exact ⟨by rw [ER.out]; rfl, HB2.out⟩
    · have e2 : ¬ left - (x.zones.length : Int) - (szIntss x.weights : Int) < 0 := by omega
      by_cases g3 : left - x.zones.length - szIntss x.weights < x.base.length
      · have ER := Lib.hid (show leftModD left x = -1 from if_pos (by unfold szModD; omega))
        obtain ⟨z, g, b, rfl, h1, h2, h3⟩ := h
        have H1 := Lib.hid h1; have H2 := Lib.hid h2; have H3 := Lib.hid h3
        have HO := Lib.hid ok
        obtain ⟨az, cz, rfl, _⟩ := id h1
        obtain ⟨ag, cg, rfl⟩ := h2.form
        obtain ⟨ab, cb, rfl, _⟩ := id h3
        clear h1 h2 h3 ok
        go_enter Tryz.func4, Tryz.ntmps4
        go_wp2_with fail
        obtain ⟨wA, hA⟩ : ∃ wA, wA = w.alloc (.cells #[.slice az x.zones.length cz, .slice ag x.weights.length cg, .slice ab x.base.length cb] 25) := ⟨_, rfl⟩
        rw [← hA]
        have hbA : Below w.heap.size w wA := by rw [hA]; (repeat (first | with_reducible exact Below.refl _ _ | with_reducible exact hbw | (with_reducible refine Below.setCell ?_ ?_ _; rotate_left; · first | exact Nat.le_refl _ | omega | (simp; done) | (simp; omega)) | (with_reducible refine Below.alloc ?_ ?_ _; rotate_left; · first | exact Nat.le_refl _ | omega | (simp; done) | (simp; omega)) | with_reducible refine below_drewN ?_ _ | with_reducible refine Below.drew ?_))
        have B1 : Box wA w.heap.size [.slice az x.zones.length cz, .slice ag x.weights.length cg, .slice ab x.base.length cb] := by
          rw [hA]; exact Box.alloc w _ _ _ rfl
        clear hA
        have c1 := B1.at' 1 _ rfl
        have HBA := Lib.hid hbA
        clear hbA
        refine (szInts_any _ x.zones (left - x.zones.length) left _ (Ints.mono H1.out HBA.out) h0 hl (if_neg (by omega)).symm).mono ?_
        rintro e w1 ⟨rfl, rfl⟩
        go_wp2_with fail
        refine (szIntssY _ x.weights (left - x.zones.length) _ (H2.out.mono HBA.out) HO.out.2.1 (by omega) (by omega) (by omega)).mono ?_
        rintro e w2 ⟨rfl, hb2⟩
        have HB2 := Lib.hid (HBA.out.trans (hb2.mono HBA.out.size))
        have c2 := (B1.mono hb2).at' 2 _ rfl
        clear hb2
        go_wp2_with fail
        refine (szInts_any _ x.base (-1) (left - x.zones.length - szIntss x.weights) _ (Ints.mono H3.out HB2.out) (by omega) (by omega) (if_pos (by omega)).symm).mono ?_
        rintro e w3 ⟨rfl, rfl⟩
        go_wp2
        go_ret
        exact ⟨by rw [ER.out]; rfl, HB2.out⟩
      · have ER := Lib.hid (show leftModD left x = left - x.zones.length - szIntss x.weights - x.base.length by unfold leftModD szModD; rw [if_neg (by omega)]; omega)
        have e3 : ¬ left - (x.zones.length : Int) - (szIntss x.weights : Int) - (x.base.length : Int) < 0 := by omega
        obtain ⟨z, g, b, rfl, h1, h2, h3⟩ := h
        have H1 := Lib.hid h1; have H2 := Lib.hid h2; have H3 := Lib.hid h3
        have HO := Lib.hid ok
        obtain ⟨az, cz, rfl, _⟩ := id h1
        obtain ⟨ag, cg, rfl⟩ := h2.form
        obtain ⟨ab, cb, rfl, _⟩ := id h3
        clear h1 h2 h3 ok
        go_enter Tryz.func4, Tryz.ntmps4
        go_wp2_with fail
        obtain ⟨wA, hA⟩ : ∃ wA, wA = w.alloc (.cells #[.slice az x.zones.length cz, .slice ag x.weights.length cg, .slice ab x.base.length cb] 25) := ⟨_, rfl⟩
        rw [← hA]
        have hbA : Below w.heap.size w wA := by rw [hA]; (repeat (first | with_reducible exact Below.refl _ _ | with_reducible exact hbw | (with_reducible refine Below.setCell ?_ ?_ _; rotate_left; · first | exact Nat.le_refl _ | omega | (simp; done) | (simp; omega)) | (with_reducible refine Below.alloc ?_ ?_ _; rotate_left; · first | exact Nat.le_refl _ | omega | (simp; done) | (simp; omega)) | with_reducible refine below_drewN ?_ _ | with_reducible refine Below.drew ?_))
        have B1 : Box wA w.heap.size [.slice az x.zones.length cz, .slice ag x.weights.length cg, .slice ab x.base.length cb] := by
          rw [hA]; exact Box.alloc w _ _ _ rfl
        clear hA
        have c1 := B1.at' 1 _ rfl
        have HBA := Lib.hid hbA
        clear hbA
        refine (szInts_any _ x.zones (left - x.zones.length) left _ (Ints.mono H1.out HBA.out) h0 hl (if_neg (by omega)).symm).mono ?_
        rintro e w1 ⟨rfl, rfl⟩
        go_wp2_with fail
        refine (szIntssY _ x.weights (left - x.zones.length) _ (H2.out.mono HBA.out) HO.out.2.1 (by omega) (by omega) (by omega)).mono ?_
        rintro e w2 ⟨rfl, hb2⟩
        have HB2 := Lib.hid (HBA.out.trans (hb2.mono HBA.out.size))
        have c2 := (B1.mono hb2).at' 2 _ rfl
        clear hb2
        go_wp2_with fail
        refine (szInts_any _ x.base (left - x.zones.length - szIntss x.weights - x.base.length) (left - x.zones.length - szIntss x.weights) _ (Ints.mono H3.out HB2.out) (by omega) (by omega) (if_neg (by omega)).symm).mono ?_
        rintro e w3 ⟨rfl, rfl⟩
        go_wp2
        go_ret
        exact ⟨by rw [ER.out]; rfl, HB2.out⟩

theorem Touch.wideS {B E B' E' : Nat} {w w' : World} (t : Touch B E w w') (hB : B' ≤ B) (hE : E ≤ E') : Touch B' E' w w' := ⟨t.os, t.tape, t.output, t.size, fun k hk hr => t.block k hk (by omega)⟩
/-- A model whose numbers are marked. -/
def MkModD (B E : Nat) (w : World) (v : Value) (x : ModD) (k : Int) : Prop := ∃ z g b, v = .agg #[z, g, b]
section
variable {B E B' E' : Nat} {w w' : World} {v : Value} {x : ModD} {k : Int}
theorem MkModD.mono (h : MkModD B E w v x k) (hb : Below w.heap.size w w') : MkModD B E w' v x k := h
theorem MkModD.touch (h : MkModD B E w v x k) (t : Touch B' E' w w') (hd : E ≤ B' ∨ E' ≤ B) : MkModD B E w' v x k := h
end
set_option maxHeartbeats 1000000 in
theorem markModDK (B E : Nat) (v : Value) (x : ModD) (k : Int) (w : World) (h : OwnModD B E w v x) (h0 : 0 ≤ k) (hk : k + sizeModD x ≤ 1000000000 ∧ x.weights.length ≤ 1000000000) :
    Calls Tryz.prog 14 #[v, .int .i64 k] w fun e w' => e = .returned (.int .i64 (k + sizeModD x)) ∧ MkModD B E w' v x k ∧ Touch B E w w' := by
  obtain ⟨z, g, b, M, N, L, rfl, m1, m2, m3, m4, m5, h1, h2, h3⟩ := h
  have H1 := Lib.hid h1; have H2 := Lib.hid h2; have H3 := Lib.hid h3
  obtain ⟨az, cz, rfl⟩ := h1.form
  obtain ⟨ag, cg, rfl⟩ := h2.form
  obtain ⟨ab, cb, rfl⟩ := h3.form
  obtain ⟨hk, hkw⟩ := hk
  unfold sizeModD at hk
  clear h1 h2 h3
  go_enter Tryz.func14, Tryz.ntmps14
  go_wp2_with fail
  obtain ⟨wA, hA⟩ : ∃ wA, wA = w.alloc (.cells #[.slice az x.zones.length cz, .slice ag x.weights.length cg, .slice ab x.base.length cb] 38) := ⟨_, rfl⟩
  rw [← hA]
  have hbA : Below w.heap.size w wA := by rw [hA]; (repeat (first | with_reducible exact Below.refl _ _ | with_reducible exact hbw | (with_reducible refine Below.setCell ?_ ?_ _; rotate_left; · first | exact Nat.le_refl _ | omega | (simp; done) | (simp; omega)) | (with_reducible refine Below.alloc ?_ ?_ _; rotate_left; · first | exact Nat.le_refl _ | omega | (simp; done) | (simp; omega)) | with_reducible refine below_drewN ?_ _ | with_reducible refine Below.drew ?_))
  have TA := Lib.hid (show Touch B E w wA by rw [hA]; (repeat (first | with_reducible exact Touch.refl _ _ _ | with_reducible exact htc | (with_reducible refine Touch.setCell ?_ ?_ _; rotate_left; · (simp only; omega)) | (with_reducible refine Touch.setNew ?_ ?_ _; rotate_left; · (first | (simp only; omega) | (simp; done) | (simp; omega))) | with_reducible refine Touch.alloc ?_ _ | with_reducible refine Touch.drewN ?_ _ | with_reducible refine Touch.drew ?_)))
  have B1 : Box wA w.heap.size [.slice az x.zones.length cz, .slice ag x.weights.length cg, .slice ab x.base.length cb] := by
    rw [hA]; exact Box.alloc w _ _ _ rfl
  clear hA
  have hLA : L ≤ w.heap.size := m5
  have HE := Lib.hid (show k + (sizeModD x : Int) = k + x.zones.length + sizeIntss x.weights + x.base.length by unfold sizeModD; omega)
  refine (markIntsK B M _ x.zones k _ (H1.out.mono hbA) h0 (by omega)).mono ?_
  rintro e w1 ⟨rfl, _, t1⟩
  rw [Int.mul_one]
  replace B1 := B1.touch t1 (.inr (by omega))
  replace TA := Lib.hid (Touch.trans TA.out (Touch.wideS t1 (Nat.le_refl _) (by omega)))
  have G2 := Lib.hid ((H2.out.mono hbA).touch t1 (.inr (Nat.le_refl _)))
  have G3 := Lib.hid ((H3.out.mono hbA).touch t1 (.inr (by omega)))
  have c1 := B1.at' 1 _ rfl
  clear t1 hbA
  go_wp2_with fail
  refine (markIntssK M N _ x.weights (k + x.zones.length) _ G2.out (by omega) ⟨by omega, hkw⟩).mono ?_
  rintro e w2 ⟨rfl, _, t2⟩
  replace B1 := B1.touch t2 (.inr (by omega))
  replace TA := Lib.hid (Touch.trans TA.out (Touch.wideS t2 m1 (by omega)))
  replace G3 := Lib.hid (G3.out.touch t2 (.inr (Nat.le_refl _)))
  have c2 := B1.at' 2 _ rfl
  clear t2 G2 c1
  go_wp2_with fail
  refine (markIntsK N L _ x.base (k + x.zones.length + sizeIntss x.weights) _ G3.out (by omega) (by omega)).mono ?_
  rintro e w3 ⟨rfl, _, t3⟩
  rw [Int.mul_one]
  replace TA := Lib.hid (Touch.trans TA.out (Touch.wideS t3 (by omega) m4))
  clear t3 c2 B1
  go_wp2
  go_ret
  exact ⟨by rw [HE.out]; rfl, ⟨_, _, _, rfl⟩, TA.out⟩
end Go.Proofs.YtenedpboehkmjaaGreat
