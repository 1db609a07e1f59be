/- The laws' marks on a slice of actions. -/
import Derived.Test.YtjmapbgbmgaljaaActsTo
set_option linter.unusedSimpArgs false
set_option linter.unnecessarySimpa false
set_option linter.unusedVariables false
set_option maxRecDepth 100000
namespace Go.Proofs.Ytjmapbgbmgaljaa
open Go.RowKit

/-- Levers that bear the numbers from k on. -/
def mkLevs (k : Nat) (n : Nat) : List Lev := (List.range n).map fun i => ⟨↑(k + i * 2), ↑(k + i * 2 + 1)⟩
theorem mkLevs_len (k n : Nat) : (mkLevs k n).length = n := by simp [mkLevs]
theorem mkLevs_cells (k : Nat) : ∀ n, (mkLevs k n).flatMap Lev.cells = marks k (n * 2)
  | 0 => rfl
  | n + 1 => by
    rw [show (n + 1) * 2 = n * 2 + 1 + 1 by omega, marks_succ, marks_succ, ← mkLevs_cells k n]
    simp [mkLevs, List.range_succ, Lev.cells, Nat.add_assoc]
def mkAct (k : Nat) (x : ActD) : ActD := ⟨↑k, mkLevs (k + 1) x.levs.length, ↑(k + 1 + x.levs.length * 2), ↑(k + 1 + x.levs.length * 2 + 1)⟩
/-- How many numbers the first j actions have. -/
def numSum (xs : List ActD) (j : Nat) : Nat := j * 3 + levSum xs j * 2
def sizeActs (xs : List ActD) : Nat := numSum xs xs.length
def mkActs (k : Nat) (xs : List ActD) : List ActD := (List.range xs.length).map fun j => match xs[j]? with | some x => mkAct (k + numSum xs j) x | none => ⟨0, [], 0, 0⟩
theorem mkActs_len (k : Nat) (xs : List ActD) : (mkActs k xs).length = xs.length := by simp [mkActs]
theorem mkActs_at (k : Nat) (xs : List ActD) {j : Nat} (h : j < xs.length) : (mkActs k xs)[j]'(by rw [mkActs_len]; exact h) = mkAct (k + numSum xs j) xs[j] := by simp [mkActs, h]
theorem numSum_step {xs : List ActD} {j : Nat} (h : j < xs.length) : numSum xs (j + 1) = numSum xs j + 3 + xs[j].levs.length * 2 := by unfold numSum; rw [levSum_step h]; omega
theorem numSum_le {xs : List ActD} {j : Nat} (h : j ≤ xs.length) : numSum xs j ≤ sizeActs xs := by have := levSum_le h; unfold sizeActs numSum; omega
theorem sizeActs_le (xs : List ActD) : sizeActs xs ≤ 3 * szActs xs := by unfold sizeActs numSum szActs; omega
theorem sizeActs_bd {xs : List ActD} (h : szActs xs ≤ 1048576) : sizeActs xs ≤ 3145728 := by have := sizeActs_le xs; omega

theorem OwnRow.far {B E : Nat} {w w' : World} {e : TypeId} {size n : Nat} {u : Value} {cs : List Value} (h : OwnRow B E w e size u n cs) {b : Option Nat} (hg : w.grownBy w' b) (hb : b = none ∨ b ≠ u.ownBlock) : OwnRow B E w' e size u n cs := by
  refine ⟨⟨h.1.1, ?_⟩, h.2⟩
  rcases h.1.2 with h2 | ⟨g, cap, cur, rfl, b', c, d⟩
  · exact .inl h2
  · refine .inr ⟨g, cap, cur, rfl, b', (hg.block g (Array.getElem?_eq_some_iff.1 c).1 ?_).trans c, d⟩
    rcases hb with hb | hb
    · rw [hb]; simp
    · exact fun e => hb e.symm

/-- Actions that lie apart, and what is stored at one of them. -/
def ActsSt (B E : Nat) (w : World) (v : Value) (ys : List (Value × ActD)) : Prop := OwnRow B E w 29 4 v ys.length (ys.flatMap actCells) ∧
  (∀ y ∈ ys, OwnRow B E w 70 2 y.1 y.2.levs.length (y.2.levs.flatMap Lev.cells)) ∧ (∀ y ∈ ys, apart v y.1) ∧ (ys.map Prod.fst).Pairwise apart
theorem OwnActs.st {B E : Nat} {w : World} {v : Value} {xs : List ActD} : OwnActs B E w v xs ↔ ∃ ys : List (Value × ActD), ys.map Prod.snd = xs ∧ ActsSt B E w v ys := Iff.rfl

theorem pair_apart {ys : List (Value × ActD)} (h : (ys.map Prod.fst).Pairwise apart) {i j : Nat} (hi : i < ys.length) (hj : j < ys.length) (hne : i ≠ j) : apart ys[i].1 ys[j].1 := by
  have h' := List.pairwise_iff_getElem.1 h
  rcases Nat.lt_or_gt_of_ne hne with hl | hl
  · have := h' i j (by simpa using hi) (by simpa using hj) hl
    rwa [List.getElem_map, List.getElem_map] at this
  · have := h' j i (by simpa using hj) (by simpa using hi) hl
    rw [List.getElem_map, List.getElem_map] at this
    exact this.symm

theorem set_flat (ys : List (Value × ActD)) (i : Nat) (hi : i < ys.length) (z : Value × ActD) : (ys.set i z).flatMap actCells = (ys.take i).flatMap actCells ++ (actCells z ++ (ys.drop (i + 1)).flatMap actCells) := by
  rw [List.set_eq_take_append_cons_drop, if_pos hi, List.flatMap_append, List.flatMap_cons]
theorem cut_flat (ys : List (Value × ActD)) (i : Nat) (hi : i < ys.length) : ys.flatMap actCells = (ys.take i).flatMap actCells ++ (actCells ys[i] ++ (ys.drop (i + 1)).flatMap actCells) := by
  have := set_flat ys i hi ys[i]
  rwa [List.set_getElem_self] at this
theorem take_flat_len (ys : List (Value × ActD)) (i : Nat) (hi : i ≤ ys.length) : ((ys.take i).flatMap actCells).length = i * 4 := by rw [act_len, List.length_take, Nat.min_eq_left hi]

/-- The three stores and the levers' marks of one round. -/
theorem mark_round {B E : Nat} {w w2 : World} {g cap : Nat} {ys : List (Value × ActD)} {n i k : Nat} (hn : n = ys.length) (h : ActsSt B E w (.slice (some ⟨g, 0, none⟩) n cap) ys) (hi : i < ys.length)
    (ho : w2.ownsRow B 70 2 ys[i].1 ys[i].2.levs.length (marks (k + 1) (ys[i].2.levs.length * 2))) (hg : (w.setCell ⟨g, i * 4, none⟩ (.int .i64 ↑k)).grownBy w2 ys[i].1.ownBlock) :
    ActsSt B E ((w2.setCell ⟨g, i * 4 + 2, none⟩ (.int .i64 ↑(k + 1 + ys[i].2.levs.length * 2))).setCell ⟨g, i * 4 + 3, none⟩ (.int .i64 ↑(k + 1 + ys[i].2.levs.length * 2 + 1))) (.slice (some ⟨g, 0, none⟩) n cap) (ys.set i (ys[i].1, mkAct k ys[i].2)) ∧
      Touch B E w ((w2.setCell ⟨g, i * 4 + 2, none⟩ (.int .i64 ↑(k + 1 + ys[i].2.levs.length * 2))).setCell ⟨g, i * 4 + 3, none⟩ (.int .i64 ↑(k + 1 + ys[i].2.levs.length * 2 + 1))) := by
  subst hn
  obtain ⟨h1, h2, h3, h4⟩ := h
  have hal := take_flat_len ys i (by omega)
  have e1 := cut_flat ys i hi
  have hgE := h1.2 g rfl
  have hgB := (h1.1.lt g rfl).1
  -- the row: note
  have r1 := h1.1
  rw [e1] at r1
  have s1 := stored1 (A := (ys.take i).flatMap actCells) (z := .int .i64 ys[i].2.note) (R := ys[i].1 :: .int .i64 ys[i].2.slack :: .int .i64 ys[i].2.weight :: (ys.drop (i + 1)).flatMap actCells) r1 hal (.int .i64 ↑k)
  have a1 : apart (.slice (some ⟨g, 0, none⟩) ys.length cap) ys[i].1 := h3 _ (List.getElem_mem hi)
  have r2 := OwnRow.far (B := B) (E := E) ⟨s1.1, h1.2⟩ hg (apart.symm a1)
  have s2 := stored1 (A := (ys.take i).flatMap actCells ++ [.int .i64 ↑k, ys[i].1]) (z := .int .i64 ys[i].2.slack) (R := .int .i64 ys[i].2.weight :: (ys.drop (i + 1)).flatMap actCells) (j := i * 4 + 2) (by simpa using r2.1) (by simp [hal]) (.int .i64 ↑(k + 1 + ys[i].2.levs.length * 2))
  have s3 := stored1 (A := (ys.take i).flatMap actCells ++ [.int .i64 ↑k, ys[i].1, .int .i64 ↑(k + 1 + ys[i].2.levs.length * 2)]) (z := .int .i64 ys[i].2.weight) (R := (ys.drop (i + 1)).flatMap actCells) (j := i * 4 + 3) (by simpa using s2.1) (by simp [hal]) (.int .i64 ↑(k + 1 + ys[i].2.levs.length * 2 + 1))
  have hset : (ys.set i (ys[i].1, mkAct k ys[i].2)).length = ys.length := by simp
  refine ⟨⟨⟨?_, h1.2⟩, ?_, ?_, ?_⟩, ?_⟩
  · rw [hset, set_flat ys i hi]
    simpa [actCells, mkAct] using s3.1
  · intro y hy
    obtain ⟨j, hj, rfl⟩ := List.getElem_of_mem hy
    rw [hset] at hj
    by_cases e : i = j
    · subst e
      simp only [List.getElem_set_self, mkAct, mkLevs_len, mkLevs_cells]
      have q : OwnRow B E w2 70 2 ys[i].1 ys[i].2.levs.length (marks (k + 1) (ys[i].2.levs.length * 2)) := ⟨ho, (h2 _ (List.getElem_mem hi)).2⟩
      exact (q.far s2.2 (by rcases a1 with h | h <;> first | (simp [Value.ownBlock] at h; done) | exact .inr h)).far s3.2 (by rcases a1 with h | h <;> first | (simp [Value.ownBlock] at h; done) | exact .inr h)
    · rw [List.getElem_set_ne e]
      have aj : apart (.slice (some ⟨g, 0, none⟩) ys.length cap) ys[j].1 := h3 _ (List.getElem_mem hj)
      have aj' : some g = none ∨ some g ≠ ys[j].1.ownBlock := aj
      have ij := pair_apart h4 hi hj e
      exact ((((h2 _ (List.getElem_mem hj)).far s1.2 aj').far hg ij).far s2.2 aj').far s3.2 aj'
  · intro y hy
    obtain ⟨j, hj, rfl⟩ := List.getElem_of_mem hy
    rw [hset] at hj
    by_cases e : i = j
    · subst e; simpa using a1
    · rw [List.getElem_set_ne e]; exact h3 _ (List.getElem_mem hj)
  · have : (ys.set i (ys[i].1, mkAct k ys[i].2)).map Prod.fst = ys.map Prod.fst := by
      apply List.ext_getElem (by simp)
      intro j hj1 hj2
      by_cases e : i = j
      · subst e; simp
      · simp [List.getElem_set_ne e]
    rw [this]; exact h4
  · have t1 : Touch B E w (w.setCell ⟨g, i * 4, none⟩ (.int .i64 ↑k)) := (Touch.refl B E w).setCell ⟨hgB, hgE⟩ _
    have t2 : Touch B E (w.setCell ⟨g, i * 4, none⟩ (.int .i64 ↑k)) w2 := Touch.of_grown hg fun q hq => ⟨((h2 _ (List.getElem_mem hi)).1.lt q hq).1, (h2 _ (List.getElem_mem hi)).2 q hq⟩
    exact ((t1.trans t2).setCell ⟨hgB, hgE⟩ _).setCell ⟨hgB, hgE⟩ _

theorem levs_fst (ys : List (Value × ActD)) (xs : List ActD) (i : Nat) (k : Nat) (hi : i < xs.length) (h : ys.map Prod.snd = (mkActs k xs).take i ++ xs.drop i) (hy : i < ys.length) : ys[i].2 = xs[i] := by
  have e := congrArg (fun l => l[i]?) h
  simp only [List.getElem?_map] at e
  rw [List.getElem?_append_right (by simp; omega)] at e
  simp [hy, hi, mkActs_len, Nat.min_eq_left (show i ≤ xs.length by omega)] at e
  exact e
theorem mk_next (ys : List (Value × ActD)) (xs : List ActD) (i : Nat) (k : Nat) (hi : i < xs.length) (h : ys.map Prod.snd = (mkActs k xs).take i ++ xs.drop i) (v : Value) :
    (ys.set i (v, mkAct (k + numSum xs i) xs[i])).map Prod.snd = (mkActs k xs).take (i + 1) ++ xs.drop (i + 1) := by
  have hl : i < (mkActs k xs).length := by rw [mkActs_len]; exact hi
  rw [List.map_set, h, List.take_succ_eq_append_getElem hl, mkActs_at k xs hi]
  rw [List.set_append_right _ _ (by simp; omega), List.length_take, Nat.min_eq_left (by omega), Nat.sub_self]
  rw [List.drop_eq_getElem_cons hi, List.set_cons_zero]; simp

set_option maxHeartbeats 2000000 in
theorem markActs_any (B E : Nat) (v : Value) (xs : List ActD) (k : Nat) (w : World) (h : OwnActs B E w v xs) (hk : k + sizeActs xs ≤ 1000000000) :
    Calls Try.prog 47 #[v, .int .i64 k] w fun e w' => e = .returned (.int .i64 ↑(k + sizeActs xs)) ∧ OwnActs B E w' v (mkActs k xs) ∧ Touch B E w w' := by
  obtain ⟨ys0, hys0, hst0⟩ := OwnActs.st.1 h
  have hlen : ys0.length = xs.length := by rw [← hys0]; simp
  have hform : (v = .slice none 0 0 ∧ xs.length = 0) ∨ ∃ g cap, v = .slice (some ⟨g, 0, none⟩) xs.length cap := by
    rcases hst0.1.1.2 with ⟨e, e2⟩ | ⟨g, cap, cur, e, _⟩
    · exact .inl ⟨e, by omega⟩
    · exact .inr ⟨g, cap, by rw [e, hlen]⟩
  have hml : xs.length ≤ 1000000000 := by unfold sizeActs numSum at hk; omega
  rcases hform with ⟨rfl, h0⟩ | ⟨g, cap, rfl⟩
  · have hx : xs = [] := List.eq_nil_of_length_eq_zero h0
    subst hx
    go_enter Try.func47, Try.ntmps47
    go_wp2_with fail
    go_loop [5, 1] (fun i l => i = .int .i64 0 ∧ l = .int .i64 k) (fun i _ => (intOf i).toNat)
    case atStart => exact ⟨rfl, rfl⟩
    case round =>
      obtain ⟨rfl, rfl⟩ := hrel
      go_wp2
      go_ret
      exact ⟨rfl, h, Touch.refl _ _ _⟩
  · go_enter Try.func47, Try.ntmps47
    go_wp2_with fail
    go_loopw [1, 5] (fun l i wr => ∃ (j : Nat) (ys : List (Value × ActD)), j ≤ xs.length ∧ i = .int .i64 j ∧ l = .int .i64 ↑(k + numSum xs j) ∧ ys.map Prod.snd = (mkActs k xs).take j ++ xs.drop j ∧ ActsSt B E wr (.slice (some ⟨g, 0, none⟩) xs.length cap) ys ∧ Touch B E w wr) (fun _ i _ => xs.length - (intOf i).toNat)
    case atStart => exact ⟨0, ys0, Nat.zero_le _, rfl, by simp [numSum, levSum], by simpa using hys0, hst0, Touch.refl _ _ _⟩
    case round =>
      obtain ⟨j, ys, hj, rfl, rfl, hys, hst, ht⟩ := hrel
      have hyl : ys.length = xs.length := by have := congrArg List.length hys; simp [mkActs_len] at this; omega
      have HY := Lib.hid hys; clear hys
      by_cases hlt : j < xs.length
      · have hyj : j < ys.length := by omega
        have ex := levs_fst ys xs j k hlt HY.out hyj
        obtain ⟨q, hq⟩ : ∃ q, q = k + numSum xs j := ⟨_, rfl⟩
        have hstep := numSum_step hlt
        have hle := numSum_le (xs := xs) (j := j + 1) (by omega)
        rw [← hq]
        have r1 := hst.1.1
        have e1 := cut_flat ys j hyj
        have hal := take_flat_len ys j (by omega)
        rw [hyl] at r1
        rw [e1] at r1
        have d0 : wr.cell? ⟨g, j * 4, none⟩ = some (.int .i64 ys[j].2.note) := by rw [r1.cellAt _ (by omega), List.getElem?_append_right (by omega), hal]; simp [actCells]
        have d1 : wr.cell? ⟨g, j * 4 + 1, none⟩ = some ys[j].1 := by rw [r1.cellAt _ (by omega), List.getElem?_append_right (by omega), hal]; simp [actCells]
        have f0 := r1.frozenAt (j * 4)
        have hlv := hst.2.1 _ (List.getElem_mem hyj)
        obtain ⟨a1, c1, el⟩ := hlv.form
        have hap : apart (.slice (some ⟨g, 0, none⟩) xs.length cap) ys[j].1 := hst.2.2.1 _ (List.getElem_mem hyj)
        have HQ := Lib.hid hq; have HS := Lib.hid hstep; have HE1 := Lib.hid e1; have HAL := Lib.hid hal; have EX := Lib.hid ex; have R1 := Lib.hid r1
        have ST := Lib.hid hst; have HYL := Lib.hid hyl; have EL := Lib.hid el; have HLV := Lib.hid hlv; have HAP := Lib.hid hap
        clear hq hstep e1 hal ex r1 hst hyl el hlv hap
        have s1 := stored1 (A := (ys.take j).flatMap actCells) (z := .int .i64 ys[j].2.note) (R := ys[j].1 :: .int .i64 ys[j].2.slack :: .int .i64 ys[j].2.weight :: (ys.drop (j + 1)).flatMap actCells) R1.out HAL.out (.int .i64 (q : Int))
        have ho := (HLV.out.far s1.2 HAP.out).1
        have S1 := Lib.hid s1; clear s1
        rw [EX.out] at ho
        have hk1 : q + 1 + 2 * xs[j].levs.length ≤ 1000000000 := by have := HQ.out; have := HS.out; omega
        obtain ⟨z, hz⟩ : ∃ z : Int, z = ↑(q + 1 + xs[j].levs.length * 2) := ⟨_, rfl⟩
        have hc := markLevs_any ys[j].1 xs[j].levs.length B 70 _ (q + 1) (wr.setCell ⟨g, j * 4, none⟩ (.int .i64 ↑q)) ho hk1
        rw [← hz] at hc
        have hzb : 0 ≤ z ∧ z ≤ 1000000000 := by omega
        obtain ⟨z0, z1⟩ := hzb
        have HZ := Lib.hid hz; clear hz ho
        rw [EL.out] at d1
        go_wp2_with fail
        rw [← EL.out]
        refine hc.mono ?_
        rintro e w2 ⟨rfl, ho2, hg2⟩
        have r2 := OwnRow.far (B := B) (E := E) ⟨S1.out.1, ST.out.1.2⟩ hg2 (apart.symm HAP.out)
        have d2 : w2.cell? ⟨g, j * 4 + 2, none⟩ = some (.int .i64 ys[j].2.slack) := by rw [r2.1.cellAt _ (by omega), List.getElem?_append_right (by rw [HAL.out]; omega), HAL.out]; simp
        have d3 : w2.cell? ⟨g, j * 4 + 3, none⟩ = some (.int .i64 ys[j].2.weight) := by rw [r2.1.cellAt _ (by omega), List.getElem?_append_right (by rw [HAL.out]; omega), HAL.out]; simp
        have f2 := r2.1.frozenAt (j * 4 + 2)
        have f3 := r2.1.frozenAt (j * 4 + 3)
        clear r2
        go_wp2
        have mr := mark_round (k := q) HYL.out.symm ST.out hyj (by rw [EX.out]; exact ho2) hg2
        rw [EX.out, Int.natCast_add _ 1, ← HZ.out] at mr
        go_roundw
        case rel => exact ⟨j + 1, ys.set j (ys[j].1, mkAct q xs[j]), by omega, by go_num, by have := HZ.out; have := HQ.out; have := HS.out; congr 1; omega, by rw [HQ.out]; exact mk_next ys xs j k hlt HY.out _, mr.1, ht.trans mr.2⟩
        case measure => simp [intOf] <;> omega
      · obtain rfl : j = xs.length := by omega
        have hl : (mkActs k xs).length = xs.length := mkActs_len k xs
        go_wp2
        go_ret
        exact ⟨rfl, OwnActs.st.2 ⟨ys, by rw [HY.out, List.drop_length, List.append_nil, List.take_of_length_le (by omega)], hst⟩, ht⟩

set_option maxHeartbeats 2000000 in
theorem heldActs_any (v : Value) (xs : List ActD) (k : Nat) (w : World) (h : RdActs w v (mkActs k xs)) (hk : k + sizeActs xs ≤ 1000000000) :
    Calls Try.prog 51 #[v, .int .i64 k] w fun e w' => e = .returned (.int .i64 ↑(k + sizeActs xs)) ∧ Below w.heap.size w w' := by
  obtain ⟨a, ca, rfl, hm⟩ := h.form'
  have hl : (mkActs k xs).length = xs.length := mkActs_len k xs
  have hml : xs.length ≤ 1000000000 := by unfold sizeActs numSum at hk; omega
  have HL := Lib.hid hl
  rw [hl] at h ⊢
  clear hl
  go_enter Try.func51, Try.ntmps51
  go_wp2_with fail
  go_loopw [1, 5] (fun l i wr => ∃ j : Nat, j ≤ xs.length ∧ i = .int .i64 j ∧ l = .int .i64 ↑(k + numSum xs j) ∧ Below w.heap.size w wr) (fun _ i _ => xs.length - (intOf i).toNat)
  case atStart => exact ⟨0, Nat.zero_le _, rfl, by simp [numSum, levSum], Below.refl _ _⟩
  case round =>
    obtain ⟨j, hj, rfl, rfl, hb⟩ := hrel
    by_cases hlt : j < xs.length
    · have h' := h.mono hb
      rw [← HL.out] at h'
      obtain ⟨b1, o1, lv, c1, rfl, hB, hA⟩ := h'.at' (k := j) (by rw [HL.out]; exact hlt)
      obtain ⟨q, hq⟩ : ∃ q, q = k + numSum xs j := ⟨_, rfl⟩
      have hstep := numSum_step hlt
      have hle := numSum_le (xs := xs) (j := j + 1) (by omega)
      rw [mkActs_at k xs hlt, ← hq] at hA
      rw [← hq]
      obtain ⟨u0, u1, u2, u3, u4⟩ := hA
      simp only [mkAct, mkLevs_len] at u0 u1 u2 u3 u4
      obtain ⟨z, hz⟩ : ∃ z : Int, z = ↑(q + 1 + xs[j].levs.length * 2) := ⟨_, rfl⟩
      have hk1 : q + 1 + 2 * xs[j].levs.length ≤ 1000000000 := by omega
      have hsl : Sl wr (.slice lv xs[j].levs.length c1) xs[j].levs.length (marks (q + 1) (xs[j].levs.length * 2)) := by
        have := u4
        unfold Levs at this
        rw [mkLevs_len, mkLevs_cells] at this
        exact this
      have hc := heldLevs_any _ xs[j].levs.length (q + 1) wr hsl hk1
      have hz2 : z + 1 = ↑(q + 1 + xs[j].levs.length * 2 + 1) := by omega
      rw [← hz] at hc
      rw [← hz] at u2
      rw [← hz2] at u3
      have hzb : 0 ≤ z ∧ z ≤ 1000000000 := by omega
      obtain ⟨z0, z1⟩ := hzb
      have z2 : ¬ z < 0 := by omega
      have HZ := Lib.hid hz; have HQ := Lib.hid hq; have HS := Lib.hid hstep; clear hz hz2 hq hstep hsl u4
      go_wp2_with fail
      refine hc.mono ?_
      rintro e w2 ⟨rfl, rfl⟩
      go_wp2
      go_roundw
      case rel => exact ⟨j + 1, by omega, by go_num, by have := HZ.out; have := HQ.out; have := HS.out; congr 1; omega, hb⟩
      case measure => simp [intOf] <;> omega
    · obtain rfl : j = xs.length := by omega
      go_wp2
      go_ret
      exact ⟨rfl, hb⟩

end Go.Proofs.Ytjmapbgbmgaljaa
