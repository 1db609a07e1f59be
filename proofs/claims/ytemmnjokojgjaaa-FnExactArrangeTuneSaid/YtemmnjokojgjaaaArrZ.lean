import Derived.Test.YtemmnjokojgjaaaMem
import Derived.Lib.SlicesCompact
import Derived.Lib.RowBridge
import Derived.Test.YtemmnjokojgjaaaShelf
import Derived.Test.YtemmnjokojgjaaaChecked
import Derived.Test.YtemmnjokojgjaaaApp
import Derived.Sort.OwnSortedInts
import Derived.Lib.OwnBridge
import Derived.Deep.QuietTactic
import Derived.BigQuiet
import Derived.Test.YtemmnjokojgjaaaKInts
import Derived.Test.YtemmnjokojgjaaaInfo
import Derived.Test.YtemmnjokojgjaaaReg3
import Derived.Test.YtemmnjokojgjaaaArrS
/- Numbers put in their places, sorted, made unique: plain. -/
set_option linter.unusedSimpArgs false
set_option linter.unnecessarySimpa false
set_option linter.unusedVariables false
namespace Go.Proofs.Ytemmnjokojgjaaa
open Go.RowKit

/-- A number put in its place among rising ones, once. -/
def putI : List Int → Int → List Int
  | [], n => [n]
  | x :: r, n => if n ≤ x then (if n < x then n :: x :: r else x :: r) else x :: putI r n
theorem putI_nil (n : Int) : putI [] n = [n] := rfl
theorem putI_drop {xs : List Int} {k : Nat} (h : k < xs.length) (n : Int) : putI (xs.drop k) n = if n ≤ xs[k] then (if n < xs[k] then n :: xs[k] :: xs.drop (k + 1) else xs[k] :: xs.drop (k + 1)) else xs[k] :: putI (xs.drop (k + 1)) n := by
  rw [List.drop_eq_getElem_cons h]; rfl
theorem putI_len : ∀ (xs : List Int) (n : Int), (putI xs n).length ≤ xs.length + 1
  | [], _ => by simp [putI]
  | x :: r, n => by
    have := putI_len r n
    unfold putI; split
    · split <;> simp
    · simp; omega
theorem mem_putI : ∀ (xs : List Int) (n x : Int), x ∈ putI xs n ↔ x = n ∨ x ∈ xs
  | [], n, x => by simp [putI]
  | y :: r, n, x => by
    unfold putI
    split
    · split
      · simp
      · rename_i h1 h2
        have e : n = y := by omega
        subst e; simp
    · simp only [List.mem_cons, mem_putI r n x]
      constructor
      · rintro (h | h | h) <;> simp [h]
      · rintro (h | h | h) <;> simp [h]
def Strict (xs : List Int) : Prop := xs.Pairwise (· < ·)
theorem putI_strict : ∀ (xs : List Int) (n : Int), Strict xs → Strict (putI xs n)
  | [], n, _ => by simp [putI, Strict]
  | y :: r, n, h => by
    have h' := List.pairwise_cons.1 h
    unfold putI
    split
    · split
      · rename_i h1 h2
        refine List.pairwise_cons.2 ⟨fun x hx => ?_, h⟩
        rcases List.mem_cons.1 hx with rfl | hx
        · exact h2
        · have := h'.1 x hx; omega
      · exact h
    · rename_i h1
      refine List.pairwise_cons.2 ⟨fun x hx => ?_, putI_strict r n h'.2⟩
      rcases (mem_putI r n x).1 hx with rfl | hx
      · omega
      · exact h'.1 x hx

theorem strict_ext : ∀ (l1 l2 : List Int), Strict l1 → Strict l2 → (∀ x, x ∈ l1 ↔ x ∈ l2) → l1 = l2
  | [], [], _, _, _ => rfl
  | [], b :: l2, _, _, h => by have := (h b).2 (by simp); simp at this
  | a :: l1, [], _, _, h => by have := (h a).1 (by simp); simp at this
  | a :: l1, b :: l2, h1, h2, h => by
    have g1 := List.pairwise_cons.1 h1
    have g2 := List.pairwise_cons.1 h2
    have e : a = b := by
      rcases List.mem_cons.1 ((h a).1 (by simp)) with e | e
      · exact e
      · rcases List.mem_cons.1 ((h b).2 (by simp)) with e' | e'
        · exact e'.symm
        · have := g1.1 b e'; have := g2.1 a e; omega
    subst e
    rw [strict_ext l1 l2 g1.2 g2.2 fun x => ?_]
    constructor
    · intro hx
      rcases List.mem_cons.1 ((h x).1 (by simp [hx])) with e | e
      · have := g1.1 x hx; omega
      · exact e
    · intro hx
      rcases List.mem_cons.1 ((h x).2 (by simp [hx])) with e | e
      · have := g2.1 x hx; omega
      · exact e

def sortI (zs : List Int) : List Int := zs.mergeSort fun x y => decide (x ≤ y)
theorem sortI_len (zs : List Int) : (sortI zs).length = zs.length := List.length_mergeSort zs
theorem sortI_mem (zs : List Int) (x : Int) : x ∈ sortI zs ↔ x ∈ zs := by simp [sortI]
theorem sortI_perm (zs : List Int) : (sortI zs).Perm zs := List.mergeSort_perm zs _
theorem sortI_le (zs : List Int) : (sortI zs).Pairwise (· ≤ ·) := by
  have := List.pairwise_mergeSort (le := fun x y : Int => decide (x ≤ y)) (by intro a b c h1 h2; simp at *; omega) (by intro a b; simp; omega) zs
  exact this.imp (by intro a b h; simpa using h)

theorem compactUpTo_inv (zs : List Int) (hs : zs.Pairwise (· ≤ ·)) : ∀ m, m ≤ zs.length →
    Strict (Lib.compactUpTo zs.toArray m) ∧ (∀ x ∈ Lib.compactUpTo zs.toArray m, ∃ j, j < m ∧ x = zs.getD j 0) ∧ (∀ j, j < m → zs.getD j 0 ∈ Lib.compactUpTo zs.toArray m)
  | 0, _ => by simp [Lib.compactUpTo, Strict]
  | m + 1, hm => by
    obtain ⟨i1, i2, i3⟩ := compactUpTo_inv zs hs m (by omega)
    have gd : ∀ j, j < zs.length → zs.toArray[j]! = zs.getD j 0 := fun j hj => by simp [hj]
    have mono : ∀ i j, i ≤ j → j < zs.length → zs.getD i 0 ≤ zs.getD j 0 := fun i j hij hj => by
      rcases Nat.eq_or_lt_of_le hij with rfl | hlt
      · exact Int.le_refl _
      · have := (List.pairwise_iff_getElem.1 hs) i j (by omega) hj hlt
        simpa [show i < zs.length by omega, hj] using this
    rw [Lib.compactUpTo_succ]
    by_cases hk : Lib.keeps zs.toArray m = true
    · rw [if_pos hk, gd m (by omega)]
      refine ⟨?_, ?_, ?_⟩
      · refine List.pairwise_append.2 ⟨i1, by simp, fun x hx y hy => ?_⟩
        simp only [List.mem_singleton] at hy
        subst hy
        obtain ⟨j, hj, rfl⟩ := i2 x hx
        have h1 : zs.toArray[m]! ≠ zs.toArray[m - 1]! := by
          simp only [Lib.keeps, decide_eq_true_eq] at hk
          rcases hk with h | h
          · omega
          · exact h
        rw [gd m (by omega), gd (m - 1) (by omega)] at h1
        have h2 := mono j (m - 1) (by omega) (by omega)
        have h3 := mono (m - 1) m (by omega) (by omega)
        omega
      · intro x hx
        rcases List.mem_append.1 hx with hx | hx
        · obtain ⟨j, hj, e⟩ := i2 x hx; exact ⟨j, by omega, e⟩
        · exact ⟨m, by omega, by simpa using hx⟩
      · intro j hj
        by_cases e : j = m
        · subst e; simp
        · exact List.mem_append_left _ (i3 j (by omega))
    · rw [if_neg hk, List.append_nil]
      refine ⟨i1, fun x hx => by obtain ⟨j, hj, e⟩ := i2 x hx; exact ⟨j, by omega, e⟩, fun j hj => ?_⟩
      by_cases e : j = m
      · subst e
        have h1 : j ≠ 0 ∧ zs.toArray[j]! = zs.toArray[j - 1]! := by
          simp only [Lib.keeps, decide_eq_true_eq, not_or, Classical.not_not] at hk
          exact hk
        rw [gd j (by omega), gd (j - 1) (by omega)] at h1
        rw [h1.2]; exact i3 _ (by omega)
      · exact i3 j (by omega)
theorem compact_strict {zs : List Int} (hs : zs.Pairwise (· ≤ ·)) : Strict (Lib.compact zs) := (compactUpTo_inv zs hs zs.length (Nat.le_refl _)).1
theorem compact_mem {zs : List Int} (hs : zs.Pairwise (· ≤ ·)) (x : Int) : x ∈ Lib.compact zs ↔ x ∈ zs := by
  obtain ⟨_, i2, i3⟩ := compactUpTo_inv zs hs zs.length (Nat.le_refl _)
  constructor
  · intro h
    obtain ⟨j, hj, e⟩ := i2 x h
    rw [e]; simp [hj]
  · intro h
    obtain ⟨j, hj, e⟩ := List.getElem_of_mem h
    have := i3 j hj
    simp only [List.getD_eq_getElem?_getD, hj, List.getElem?_eq_getElem, Option.getD_some] at this
    rw [e] at this; exact this

/-- All of some numbers, in order, each once. -/
def notesOfL (ns : List Int) : List Int := ns.foldl putI []
theorem foldl_putI (ns : List Int) : ∀ acc, Strict acc → Strict (ns.foldl putI acc) ∧ ∀ x, x ∈ ns.foldl putI acc ↔ x ∈ acc ∨ x ∈ ns := by
  induction ns with
  | nil => intro acc h; exact ⟨h, by simp⟩
  | cons n r ih =>
    intro acc h
    obtain ⟨h1, h2⟩ := ih (putI acc n) (putI_strict acc n h)
    refine ⟨h1, fun x => ?_⟩
    rw [List.foldl_cons, h2, mem_putI, List.mem_cons]
    constructor
    · rintro ((h | h) | h) <;> simp [h]
    · rintro (h | h | h) <;> simp [h]
theorem notesOfL_strict (ns : List Int) : Strict (notesOfL ns) := (foldl_putI ns [] (by simp [Strict])).1
theorem notesOfL_mem (ns : List Int) (x : Int) : x ∈ notesOfL ns ↔ x ∈ ns := by have := (foldl_putI ns [] (by simp [Strict])).2 x; simpa [notesOfL] using this
theorem notesOfL_eq (ns : List Int) : Lib.compact (sortI ns) = notesOfL ns :=
  strict_ext _ _ (compact_strict (sortI_le ns)) (notesOfL_strict ns) fun x => by rw [compact_mem (sortI_le ns), sortI_mem, notesOfL_mem]
theorem foldl_putI_len (ns : List Int) : ∀ acc, (ns.foldl putI acc).length ≤ acc.length + ns.length := by
  induction ns with
  | nil => intro acc; simp
  | cons n r ih => intro acc; have := ih (putI acc n); have := putI_len acc n; simp; omega
theorem notesOfL_len (ns : List Int) : (notesOfL ns).length ≤ ns.length := by have := foldl_putI_len ns []; simpa [notesOfL] using this

end Go.Proofs.Ytemmnjokojgjaaa
/- Contract of slices.Sort at []int64. -/
set_option linter.unusedSimpArgs false
set_option linter.unnecessarySimpa false
set_option linter.unusedVariables false
set_option maxRecDepth 100000
namespace Go.Proofs.Ytemmnjokojgjaaa
open Go.RowKit

theorem info_int64 : (Try.prog.info? 2).map (fun i => (i.zero, i.size, i.bytes)) = some (some (.int .i64 0), 1, 8) := by kernel_rfl

/-- slices.Sort on a row of the call's own. -/
theorem sortInts_any (v : Value) (base : Nat) (zs : List Int) (w : World) (h : w.ownsRow base 2 1 v zs.length (zs.map (Value.int .i64))) (hs : zs.length ≤ 1000000000) :
    Calls Try.prog 109 #[v] w fun e w' => e = .returned (.tuple #[]) ∧ w'.ownsRow base 2 1 v zs.length ((sortI zs).map (Value.int .i64)) ∧ w.grownBy w' v.ownBlock := by
  rcases h.2 with ⟨rfl, hn⟩ | ⟨g, cap, cur, rfl, hb, hg, h1, h2, h3, h4⟩
  · have hz : zs = [] := List.eq_nil_of_length_eq_zero hn
    subst hz
    have := AnyG.slices_Sort_int_none Try.laysSort none 0 w
    exact this.mono fun e w' ⟨he, hw⟩ => ⟨he, by rw [hw]; exact ⟨by simpa [sortI] using h, World.grownBy.refl w _⟩⟩
  · have hH := Go.holds_of_blockI hg (by rw [Nat.mul_one] at h4; exact h4)
    have hlt := (Array.getElem?_eq_some_iff.1 hg).1
    have := AnyG.slices_Sort_int Try.laysSort g 0 cap zs w hH hlt (by omega)
    refine this.mono fun e w' ⟨he, n, os, hw⟩ => ⟨he, ?_, ?_⟩
    · rw [hw]; exact Go.ownsRow_sortedI (ss := zs) (ts := sortI zs) (sortI_len zs) hb hg h1 h2 h3
    · rw [hw]; exact Go.grownBy_sortedI _

end Go.Proofs.Ytemmnjokojgjaaa
/- Contracts of l26Order and shifts: 0, -1, 1, -2, 2 .. -24, 24. -/
set_option linter.unusedSimpArgs false
set_option linter.unnecessarySimpa false
set_option linter.unusedVariables false
set_option maxRecDepth 100000
namespace Go.Proofs.Ytemmnjokojgjaaa
open Go.RowKit

/-- 'out = append(out, x, y)' of cells of size 1, out owned, the pair laid just ahead. -/
theorem append_two {P : Program} {w : World} {ops : Array Oper} {rest : List Oper} {o : Oper} {a : Act} {Q : Exit → Act → World → Prop} (hgd : o.guard = none) (s x : Operand) (t : TypeId)
    (ho : o.op = .call { callee := .builtin .append, args := #[s, x], argTypes := #[t, t] })
    (base : Nat) (e : TypeId) (z : Value) (bytes : Nat) (ht : P.underlying t = some (.slice e)) (hi : (P.info? e).map (fun i => (i.zero, i.size, i.bytes)) = some (some z, 1, bytes)) (hzs : z.cells.size = 1)
    (v : Value) (n : Nat) (xs : List Value) (hs : a.eval s = v) (hown : w.ownsRow base e 1 v n xs) (news : List Value) (hl : news.length = 2) (h1 : ∀ u ∈ news, u.oneCell' = true)
    (hx : a.eval x = .slice (some ⟨w.heap.size, 0, none⟩) 2 2) (hn : n ≤ 1000000000) (hbytes : bytes ≤ 1000) (hbase : base ≤ w.heap.size)
    (h : ∀ a' cap' w', w'.ownsRow base e 1 (.slice a' (n + 2) cap') (n + 2) (xs ++ news) → w.grownBy w' v.ownBlock → Below base w w' → wpList P ops Q rest (Act.put a o.dst (.slice a' (n + 2) cap')) w') :
    wpList P ops Q (o :: rest) a (w.alloc (.cells news.toArray e)) := by
  obtain ⟨i0, hi, hz0, hz1, hz2⟩ := info_parts hi
  have hb2 : (n + 2) * bytes ≤ 140737488355328 := Nat.le_trans (Nat.mul_le_mul (show n + 2 ≤ 1000000002 by omega) hbytes) (by omega)
  refine wpList_append_own _ hgd s x t ho base e i0 z 1 bytes ht hi hz0 hz1 hz2 hzs (by decide) v n xs hs (hown.alloc _) ⟨w.heap.size, 0, none⟩ 2 2 news hx (by omega) (fun j u hu => ?_) h1 (by unfold maxLen; omega) hb2 (by simp; omega) (fun v' w' ho' hg' _ => ?_)
  · rw [Addr.add_lit, Nat.zero_add, cell_of_row _ w.heap.size j news.toArray e (0, 0) (heap_alloc_new w _)]
    simpa using hu
  · obtain ⟨a', cap', rfl⟩ : ∃ a' cap', v' = .slice a' (n + 2) cap' := by
      rcases ho'.2 with ⟨rfl, h0⟩ | ⟨g, cap, cur, rfl, _⟩
      · omega
      · exact ⟨_, _, rfl⟩
    have hg2 : w.grownBy w' v.ownBlock := grown_trans (World.grownBy_alloc _ _ _) hg'
    exact h a' cap' w' ho' hg2 ((Below.refl base w).grown hg2 hbase (fun k hk => (hown.lt k hk).1))

def shK (k : Nat) : Int := if k % 2 = 1 then -(((k + 1) / 2 : Nat) : Int) else ((k / 2 : Nat) : Int)
theorem shK_bd {k : Nat} (h : k ≤ 48) : -24 ≤ shK k ∧ shK k ≤ 24 := by unfold shK; split <;> omega
theorem shK_odd (m : Nat) : shK (2 * m + 1) = -((m : Int) + 1) := by unfold shK; rw [if_pos (by omega)]; omega
theorem shK_even (m : Nat) : shK (2 * m) = (m : Int) := by unfold shK; rw [if_neg (by omega)]; omega
def shL (k : Nat) : List Int := (List.range k).map shK
theorem shL_len (k : Nat) : (shL k).length = k := by simp [shL]
theorem shL_get {n k : Nat} (h : k < (shL n).length) : (shL n)[k] = shK k := by simp [shL]
theorem shL_two (m : Nat) : shL (2 * m + 3) = shL (2 * m + 1) ++ [-((m : Int) + 1), (m : Int) + 1] := by
  have e1 : shK (2 * m + 1) = -((m : Int) + 1) := shK_odd m
  have e2 : shK (2 * m + 2) = ((m : Int) + 1) := by have := shK_even (m + 1); rw [show 2 * (m + 1) = 2 * m + 2 by omega] at this; rw [this]; omega
  unfold shL
  rw [List.range_succ, List.range_succ]
  simp [e1, e2]

theorem l26Order_any (k : Nat) (w : World) (h : k ≤ 48) :
    Calls Try.prog 51 #[.int .i64 (k : Int)] w fun e w' => e = .returned (.int .i64 (shK k)) ∧ w' = w := by
  by_cases p : k % 2 = 1
  · obtain ⟨m, rfl⟩ : ∃ m, k = 2 * m + 1 := ⟨k / 2, by omega⟩
    have E := Lib.hid (shK_odd m)
    obtain ⟨n, hn⟩ : ∃ n : Int, n = ((2 * m + 1 : Nat) : Int) := ⟨_, rfl⟩
    rw [← hn]
    have t1 : IntKind.i64.wrap (n.tmod 2) = 1 := by rw [Int.tmod_eq_emod_of_nonneg (by omega), show n % 2 = 1 by omega]; decide
    have d1 : (n.tmod 2 == 1) = true := by rw [Int.tmod_eq_emod_of_nonneg (by omega), show n % 2 = 1 by omega]; rfl
    have w1 : IntKind.i64.wrap (n + 1) = n + 1 := IntWalk.i64_in _ (by omega)
    have w2 : IntKind.i64.wrap (-(n + 1)) = -(n + 1) := IntWalk.i64_in _ (by omega)
    have w3 : IntKind.i64.wrap (-((n + 1).tdiv 2)) = -((m : Int) + 1) := by
      rw [Int.tdiv_eq_ediv_of_nonneg (by omega), show (n + 1) / 2 = (m : Int) + 1 by omega]; exact IntWalk.i64_in _ (by omega)
    have N := Lib.hid hn; clear hn
    go_enter Try.func51, Try.ntmps51
    go_wp2
    go_ret
    exact ⟨by rw [E.out]; rfl, rfl⟩
  · obtain ⟨m, rfl⟩ : ∃ m, k = 2 * m := ⟨k / 2, by omega⟩
    have E := Lib.hid (shK_even m)
    obtain ⟨n, hn⟩ : ∃ n : Int, n = ((2 * m : Nat) : Int) := ⟨_, rfl⟩
    rw [← hn]
    have t1 : IntKind.i64.wrap (n.tmod 2) = 0 := by rw [Int.tmod_eq_emod_of_nonneg (by omega), show n % 2 = 0 by omega]; decide
    have d1 : (n.tmod 2 == 1) = false := by rw [Int.tmod_eq_emod_of_nonneg (by omega), show n % 2 = 0 by omega]; rfl
    have w3 : IntKind.i64.wrap (n.tdiv 2) = (m : Int) := by
      rw [Int.tdiv_eq_ediv_of_nonneg (by omega), show n / 2 = (m : Int) by omega]; exact IntWalk.i64_in _ (by omega)
    have N := Lib.hid hn; clear hn
    go_enter Try.func51, Try.ntmps51
    go_wp2
    go_ret
    exact ⟨by rw [E.out]; rfl, rfl⟩

theorem owns_single (w : World) (e : TypeId) (base : Nat) (n : Int) (h : base ≤ w.heap.size) : (w.alloc (.cells #[.int .i64 n] e)).ownsRow base e 1 (.slice (some ⟨w.heap.size, 0, none⟩) 1 1) 1 [.int .i64 n] :=
  ⟨by simp, .inr ⟨w.heap.size, 1, #[.int .i64 n], rfl, h, heap_alloc_new w _, by simp, by simp [maxLen], by simp, by simp⟩⟩

set_option maxHeartbeats 1000000 in
theorem shifts_any (w : World) :
    Calls Try.prog 52 #[] w fun e w' => ∃ v', e = .returned v' ∧ w'.ownsRow w.heap.size 2 1 v' 49 ((shL 49).map (Value.int .i64)) ∧ Below w.heap.size w w' := by
  go_enter Try.func52, Try.ntmps52
  go_wp2_with fail
  go_loopw [1, 2] (fun o i wr => ∃ (m n : Nat) (a' : Option Addr) (c' : Nat), m ≤ 24 ∧ n = 2 * m + 1 ∧ i = .int .i64 ((m : Int) + 1) ∧ o = .slice a' n c' ∧ wr.ownsRow w.heap.size 2 1 (.slice a' n c') n ((shL n).map (Value.int .i64)) ∧ Below w.heap.size w wr) (fun _ i _ => 25 - (intOf i).toNat)
  case atStart => exact ⟨0, 1, _, _, by omega, rfl, by go_num, rfl, owns_single _ _ _ _ (Nat.le_refl _), by (repeat (first | with_reducible exact Below.refl _ _ | with_reducible exact hbw | (with_reducible refine Below.setCell ?_ ?_ _; rotate_left; · first | exact Nat.le_refl _ | omega | (simp; done) | (simp; omega)) | (with_reducible refine Below.alloc ?_ ?_ _; rotate_left; · first | exact Nat.le_refl _ | omega | (simp; done) | (simp; omega)) | with_reducible refine below_drewN ?_ _ | with_reducible refine Below.drew ?_))⟩
  case round =>
    obtain ⟨m, n, a1, c1, hm, hn, rfl, rfl, ho, hb⟩ := hrel
    have hz := hb.size
    obtain ⟨u, hu⟩ : ∃ u : Int, u = (m : Int) + 1 := ⟨_, rfl⟩
    rw [← hu]
    by_cases hlt : m < 24
    · have w1 : IntKind.i64.wrap (u + 1) = u + 1 := IntWalk.i64_in _ (by omega)
      have w2 : IntKind.i64.wrap (-u) = -u := IntWalk.i64_in _ (by omega)
      have d1 : decide (u ≤ 24) = true := by simp; omega
      have hn2 : n ≤ 1000 := by omega
      have S := Lib.hid (show shL (n + 2) = shL n ++ [-u, u] by rw [hn, hu]; exact shL_two m)
      have HN := Lib.hid hn; clear hn
      have HU := Lib.hid hu; clear hu
      go_wp2_with (at_builtin; refine append_two rfl _ _ 25 rfl w.heap.size 2 (.int .i64 0) 8 Try.underlying25 info_int64 rfl _ n _ rfl ho [.int .i64 (-u), .int .i64 u] rfl (by simp [Value.oneCell']) rfl (by omega) (by decide) hz ?_)
      intro a' cap' w3 ho3 _ hb3
      go_wp2
      go_roundw
      case rel => exact ⟨m + 1, n + 2, a', cap', by omega, by have := HN.out; omega, by have := HU.out; subst this; go_num, rfl, by rw [S.out]; simpa using ho3, hb.trans hb3⟩
      case measure => have := HU.out; simp [intOf] <;> omega
    · have d1 : decide (u ≤ 24) = false := by simp; omega
      have hn' : n = 49 := by omega
      have HN := Lib.hid hn'; clear hn hn' hu
      go_wp2
      go_ret
      exact ⟨_, rfl, by have := HN.out; subst this; exact ho, hb⟩

end Go.Proofs.Ytemmnjokojgjaaa
/- Contracts of the laws' helpers over slices of numbers: copy and equality. -/
set_option linter.unusedSimpArgs false
set_option linter.unnecessarySimpa false
set_option linter.unusedVariables false
namespace Go.Proofs.Ytemmnjokojgjaaa
open Go.RowKit

set_option maxHeartbeats 400000 in
theorem eqInts_any (v1 v2 : Value) (xs ys : List Int) (w : World) (h1 : Ints w v1 xs) (h2 : Ints w v2 ys) :
    Calls Try.prog 14 #[v1, v2] w fun e w' => e = .returned (.bool (decide (xs = ys))) ∧ Q w w' := by
  obtain ⟨a, ca, rfl, hca, hcm, _⟩ := id h1
  obtain ⟨b, cb, rfl, _, _, _⟩ := id h2
  by_cases hl : xs.length = ys.length
  · have hm : xs.length ≤ maxLen := by omega
    clear hca hcm
    unfold maxLen at hm
    have hl1 : ((xs.length : Int) != (ys.length : Int)) = false := by rw [hl]; simp
    have HL := Lib.hid hl; clear hl
    go_enter Try.func14, Try.ntmps14
    go_wp2
    go_loopw [5] (fun i wr => ∃ k : Nat, k ≤ xs.length ∧ i = .int .i64 k ∧ xs.take k = ys.take k ∧ Q w wr) (fun i _ => xs.length - (intOf i).toNat)
    case atStart => exact ⟨0, Nat.zero_le _, rfl, by simp, Q.refl _⟩
    case round =>
      obtain ⟨k, hk, rfl, ht, hq⟩ := hrel
      by_cases hlt : k < xs.length
      · obtain ⟨b1, o1, rfl, c1⟩ := (h1.q hq).cells (by simp; omega)
        obtain ⟨b2, o2, rfl, c2⟩ := (h2.q hq).cells (by simp; rw [← HL.out]; omega)
        have d1 : wr.cell? ⟨b1, o1 + k, none⟩ = some (.int .i64 xs[k]) := c1 k _ (by simp [hlt])
        have hk2 : k < ys.length := by rw [← HL.out]; exact hlt
        have d2 : wr.cell? ⟨b2, o2 + k, none⟩ = some (.int .i64 ys[k]) := c2 k _ (by simp [hk2])
        clear c1 c2
        go_wp2
        go_quiet (fail)
        go_wp2
        · have hne : (xs[k] != ys[k]) = true := by assumption
          go_ret
          exact ⟨ret_bool (by simpa using ne_of_get hlt hk2 hne), hq.drewN _⟩
        · have heq : (xs[k] != ys[k]) = false := by assumption
          go_roundw
          case rel => exact ⟨k + 1, by omega, by go_num, take_step hlt hk2 ht heq, hq.drewN _⟩
          case measure => simp [intOf]; omega
      · go_wp2
        go_ret
        exact ⟨ret_bool (by simpa using eq_of_take HL.out hlt ht), hq⟩
  · have hl1 : ((xs.length : Int) != (ys.length : Int)) = true := by simp; omega
    have hne : xs ≠ ys := fun e => hl (by rw [e])
    clear hl
    go_enter Try.func14, Try.ntmps14
    go_wp2
    go_ret
    exact ⟨ret_bool (by simpa using hne), Q.refl _⟩

end Go.Proofs.Ytemmnjokojgjaaa
/- The laws' equality of slices of numbers, in the form that the laws' walks take. -/
set_option linter.unusedSimpArgs false
set_option linter.unnecessarySimpa false
set_option linter.unusedVariables false
namespace Go.Proofs.Ytemmnjokojgjaaa
open Go.RowKit

theorem eqIntsK (v1 v2 : Value) (xs : List Int) (w : World) (h1 : RdInts w v1 xs) (h2 : RdInts w v2 xs) :
    Calls Try.prog 14 #[v1, v2] w fun e w' => e = .returned (.bool true) ∧ Below w.heap.size w w' :=
  (eqInts_any v1 v2 xs xs w h1 h2).mono fun e w' ⟨he, hq⟩ => ⟨by rw [he]; simp, hq.below _⟩

end Go.Proofs.Ytemmnjokojgjaaa
/- The contract of the laws' copy of a slice of numbers. -/
set_option linter.unusedSimpArgs false
set_option linter.unnecessarySimpa false
set_option linter.unusedVariables false
namespace Go.Proofs.Ytemmnjokojgjaaa
open Go.RowKit



/-- The cells of a copy of numbers, k of them filled. -/
def part (xs : List Int) (k : Nat) : List Value := (xs.take k).map (Value.int .i64) ++ List.replicate (xs.length - k) (.int .i64 0)
theorem part_zero (xs : List Int) : part xs 0 = List.replicate xs.length (.int .i64 0) := by simp [part]
theorem part_all (xs : List Int) (k : Nat) (h : ¬ k < xs.length) : part xs k = xs.map (Value.int .i64) := by
  simp [part, List.take_of_length_le (show xs.length ≤ k by omega), show xs.length - k = 0 by omega]
theorem part_set (xs : List Int) (k : Nat) (h : k < xs.length) : (part xs k).set k (.int .i64 xs[k]) = part xs (k + 1) := by
  unfold part
  rw [List.take_succ_eq_append_getElem h, List.set_append_right _ _ (by simp; omega), show xs.length - k = (xs.length - (k + 1)) + 1 by omega, List.replicate_succ]
  simp only [List.length_map, List.length_take, Nat.min_eq_left (Nat.le_of_lt h), Nat.sub_self, List.set_cons_zero, List.map_append, List.map_cons, List.map_nil, List.append_assoc, List.singleton_append]

theorem part_at (xs : List Int) (k : Nat) (h : k < xs.length) : (part xs k)[k]? = some (.int .i64 0) := by
  unfold part
  rw [List.getElem?_append_right (by simp; omega)]
  simp [Nat.min_eq_left (Nat.le_of_lt h), List.getElem?_replicate]; omega

set_option maxHeartbeats 400000 in
theorem toInts_any (v1 : Value) (xs : List Int) (w : World) (h1 : Ints w v1 xs) (hs : xs.length ≤ 1048576) :
    Calls Try.prog 11 #[v1] w fun e w' => ∃ v, e = .returned v ∧ w'.ownsRow w.heap.size 2 1 v xs.length (xs.map (Value.int .i64)) ∧ Below w.heap.size w w' := by
  obtain ⟨a, ca, rfl, _, _, _⟩ := id h1
  obtain ⟨i0, hi, hz0, hz1, hz2⟩ := info_parts info_int
  have HS := Lib.hid hs; clear hs
  go_enter Try.func11, Try.ntmps11
  go_wp2_with (at_make; refine wpList_make_full _ rfl _ _ 25 rfl w.heap.size 2 i0 (.int .i64 0) 1 Try.underlying25 hi hz0 hz1 _ _ _ _ xs.length rfl rfl rfl rfl (by rw [hz2]; have := HS.out; omega) (by have := HS.out; unfold maxLen; omega) (Nat.le_refl _) ?_)
  intro w1 hown hgrow
  have hb1 : Below w.heap.size w w1 := (Below.refl _ _).grown hgrow (Nat.le_refl _) (by simp)
  go_wp2
  go_loopw [4] (fun i wr => ∃ k : Nat, k ≤ xs.length ∧ i = .int .i64 k ∧ wr.ownsRow w.heap.size 2 1 (.slice (some ⟨w.heap.size, 0, none⟩) xs.length xs.length) xs.length (part xs k) ∧ Below w.heap.size w wr) (fun i _ => xs.length - (intOf i).toNat)
  case atStart => exact ⟨0, Nat.zero_le _, rfl, by rw [part_zero]; simpa [toList_madeCells_one, Value.cells] using hown, hb1⟩
  case round =>
    obtain ⟨k, hk, rfl, ho, hb⟩ := hrel
    clear hown hgrow hb1
    by_cases hlt : k < xs.length
    · obtain ⟨b1, o1, rfl, c1⟩ := (h1.mono hb).cells (by simp; omega)
      have d1 : wr.cell? ⟨b1, o1 + k, none⟩ = some (.int .i64 xs[k]) := c1 k _ (by simp [hlt])
      have d2 : wr.cell? ⟨w.heap.size, k, none⟩ = some (.int .i64 0) := by rw [ho.cellAt k (by omega)]; exact part_at xs k hlt
      have d3 := ho.frozenAt k
      clear c1
      have hm : xs.length ≤ 1048576 := HS.out
      go_wp2
      have e := ho.stored k (.int .i64 xs[k])
      rw [part_set xs k hlt] at e
      exact ⟨⟨k + 1, by omega, by go_num, e.1, hb.setCell (Nat.le_refl _) _⟩, by simp [intOf]; omega⟩
    · go_wp2
      go_ret
      exact ⟨_, rfl, by rw [← part_all xs k hlt]; exact ho, hb⟩

end Go.Proofs.Ytemmnjokojgjaaa
/- The laws' copy of a slice of numbers, in the form that the laws' walks take. -/
set_option linter.unusedSimpArgs false
set_option linter.unnecessarySimpa false
set_option linter.unusedVariables false
namespace Go.Proofs.Ytemmnjokojgjaaa
open Go.RowKit

theorem toIntsK (v : Value) (xs : List Int) (w : World) (h : RdInts w v xs) (hs : xs.length ≤ 1048576) :
    Calls Try.prog 11 #[v] w fun e w' => ∃ v', e = .returned v' ∧ OwnInts w.heap.size w'.heap.size w' v' xs ∧ Below w.heap.size w w' :=
  (toInts_any v xs w h hs).mono fun e w' ⟨v', he, ho, hb⟩ => ⟨v', he, OwnRow.mk' ho, hb⟩

end Go.Proofs.Ytemmnjokojgjaaa
/- Contracts of the laws' marks over slices of numbers. -/
set_option linter.unusedSimpArgs false
set_option linter.unnecessarySimpa false
set_option linter.unusedVariables false
namespace Go.Proofs.Ytemmnjokojgjaaa
open Go.RowKit

set_option maxHeartbeats 400000 in
theorem markInts_any (v : Value) (n base : Nat) (te : TypeId) (cs : List Value) (k : Nat) (w : World) (ho : w.ownsRow base te 1 v n cs) (hk : k + 1 * n ≤ 1000000000) :
    Calls Try.prog 16 #[v, .int .i64 k] w fun e w' => e = .returned (.int .i64 ↑(k + n * 1)) ∧ w'.ownsRow base te 1 v n (marks k (n * 1)) ∧ w.grownBy w' v.ownBlock := by
  rcases id ho with ⟨hl, ⟨rfl, rfl⟩ | ⟨g, cap, cur, rfl, hbase, hg, hn, hc, hs, ht⟩⟩
  · have hcs : cs = [] := by simpa using hl
    subst hcs
    go_enter Try.func16, Try.ntmps16
    go_wp2
    refine wp_loop_rounds 1 ?_
    rw [rounds_succ]
    go_wp2
    go_ret
    exact ⟨by simp, by simpa [marks] using ho, World.grownBy.refl _ _⟩
  · clear hg ht hs
    unfold maxLen at hc
    have HL := Lib.hid hl; clear hl
    go_enter Try.func16, Try.ntmps16
    go_wp2
    go_loopw [1, 5] (fun q i wr => ∃ t : Nat, t ≤ n ∧ i = .int .i64 t ∧ q = .int .i64 ↑(k + t) ∧ wr.ownsRow base te 1 (.slice (some ⟨g, 0, none⟩) n cap) n (marks k t ++ cs.drop t) ∧ w.grownBy wr (some g)) (fun _ i _ => n - (intOf i).toNat)
    case atStart => exact ⟨0, Nat.zero_le _, rfl, by simp, by simpa [marks] using ho, World.grownBy.refl _ _⟩
    case round =>
      obtain ⟨t, ht, rfl, rfl, hw, hg⟩ := hrel
      by_cases hlt : t < n
      · have hlen := HL.out
        have x0 : (marks k t ++ cs.drop t)[t]? = some (cs.getD t .nilFunc) := marks_at _ _ _ 0 (by rw [hlen]; omega)
        have d0 : wr.cell? ⟨g, t, none⟩ = some (cs.getD t .nilFunc) := by rw [hw.cellAt _ (by omega)]; exact x0
        have f0 := hw.frozenAt t
        have HW := Lib.hid hw
        clear hw hlen x0
        go_wp2
        have hlen := HL.out
        have q1 := (HW.out).stored t (.int .i64 ↑(k + t))
        rw [marks_set k t cs (by rw [hlen]; omega)] at q1
        have z0 : ((k + t : Nat) : Int) = (k : Int) + (t : Int) := by omega
        simp only [z0] at q1
        exact ⟨⟨t + 1, by omega, by go_num, by go_num, q1.1, grown_trans hg q1.2⟩, by simp [intOf]; omega⟩
      · go_wp2
        go_ret
        obtain rfl : t = n := by omega
        exact ⟨by simp, by have := hw; rw [List.drop_of_length_le (by rw [HL.out]; omega), List.append_nil] at this; simpa using this, hg⟩

end Go.Proofs.Ytemmnjokojgjaaa
/- The laws' marks over slices of numbers, in the form that the laws' walks take. -/
set_option linter.unusedSimpArgs false
set_option linter.unnecessarySimpa false
set_option linter.unusedVariables false
namespace Go.Proofs.Ytemmnjokojgjaaa
open Go.RowKit

theorem markIntsK (B E : Nat) (v : Value) (xs : List Int) (k : Int) (w : World) (h : OwnInts B E w v xs) (h0 : 0 ≤ k) (hk : k + xs.length * 1 ≤ 1000000000) :
    Calls Try.prog 16 #[v, .int .i64 k] w fun e w' => e = .returned (.int .i64 (k + xs.length * 1)) ∧ MkInts B E w' v xs k ∧ Touch B E w w' := by
  obtain ⟨j, rfl⟩ := Int.eq_ofNat_of_zero_le h0
  refine (markInts_any v xs.length B _ _ j w h.1 (by omega)).mono fun e w' ⟨he, ho, hg⟩ => ⟨by rw [he]; congr 2 <;> omega, ⟨by rw [marksI_nat]; exact ho, h.2⟩, Touch.of_grown hg fun k hk => ⟨(h.1.lt k hk).1, h.2 k hk⟩⟩
end Go.Proofs.Ytemmnjokojgjaaa
/- A region that draws its order in which one variable is made at no fixed time, between the calls: walked once. No program in sight. -/
set_option linter.unusedSimpArgs false
set_option linter.unnecessarySimpa false
set_option linter.unusedVariables false
namespace Go.Proofs.Ytemmnjokojgjaaa
open Go.RowKit

/-- u points to the variable (of block 'obj'), or it is not made yet; it lies in none of the ranges of L. -/
def Fl (w0 : World) (obj : Obj) (L : List (Nat × Nat)) (pd : Bool) (u : Value) (w : World) : Prop :=
  (pd = true ∧ w0.heap.size ≤ w.heap.size ∧ ∀ q ∈ L, q.2 ≤ w.heap.size) ∨
  (pd = false ∧ ∃ b, u = .pointer (some ⟨b, 0, none⟩) ∧ w0.heap.size ≤ b ∧ b < w.heap.size ∧ w.heap[b]? = some obj ∧ ∀ q ∈ L, b < q.1 ∨ q.2 ≤ b)

theorem Fl.start (w0 : World) (obj : Obj) (u : Value) : Fl w0 obj [] true u w0.drew := .inl ⟨rfl, Nat.le_refl _, fun q hq => by cases hq⟩
theorem grown_draw (w : World) : w.grownBy w.drew none := ⟨rfl, rfl, rfl, Nat.le_refl _, fun _ _ _ => rfl⟩
theorem Fl.call {w0 w w' : World} {obj : Obj} {L : List (Nat × Nat)} {pd : Bool} {u : Value} (h : Fl w0 obj L pd u w) (hb : Below w.heap.size w w') : Fl w0 obj ((w.heap.size, w'.heap.size) :: L) pd u w' := by
  have hs := hb.size
  rcases h with ⟨h1, h2, h3⟩ | ⟨h1, b, h2, h3, h4, h5, h6⟩
  · refine .inl ⟨h1, by omega, fun q hq => ?_⟩
    rcases List.mem_cons.1 hq with rfl | hq
    · exact Nat.le_refl _
    · have := h3 q hq; omega
  · refine .inr ⟨h1, b, h2, h3, by omega, (hb.block b h4).trans h5, fun q hq => ?_⟩
    rcases List.mem_cons.1 hq with rfl | hq
    · exact .inl h4
    · exact h6 q hq

section
variable {P : Program} {ops : Array Oper} {md : Region.Mode} {Q : Exit → Act → World → Prop} {w0 : World} {j : Nat}

/-- some false: all else, some true: soft, none: the variable must be there now. -/
def wpOrdF (P : Program) (ops : Array Oper) (Q : Exit → Act → World → Prop) (w0 : World) (j : Nat) (T : Act → World → Prop) : List (Nat × Option Bool) → Bool → Act → World → Prop
  | [], pd, a, w => pd = false ∧ T a w
  | (i, some true) :: r, pd, a, w =>
    match ops[i]? with
    | none => False
    | some o => if Region.wanted o (yielded ops a.tmps) = true then softAt P w0 none o a (fun a' => wpOrdF P ops Q w0 j T r pd a' w) else wpOrdF P ops Q w0 j T r pd (a.put o.dst undef) w
  | (_, none) :: r, pd, a, w => (pd = true → wpOp P ops Q j (fun a' w' => w0.grownBy w' none ∧ wpOrdF P ops Q w0 j T r false a' w') a w) ∧ (pd = false → wpOrdF P ops Q w0 j T r false a w)
  | (i, some false) :: r, pd, a, w =>
    wpOp P ops Q i (fun a' w' => w0.grownBy w' none ∧ wpOrdF P ops Q w0 j T r pd a' w') a w ∧
    (pd = true → wpOp P ops Q j (fun a1 w1 => w0.grownBy w1 none ∧ wpOp P ops Q i (fun a' w' => w0.grownBy w' none ∧ wpOrdF P ops Q w0 j T r false a' w') a1 w1) a w)

def lenF : List (Nat × Option Bool) → Nat
  | [] => 0
  | (_, none) :: r => lenF r
  | (_, some _) :: r => lenF r + 1

/-- 'L': what has come up, without j. -/
def ordFB (md : Region.Mode) (ops : Array Oper) (j : Nat) : List (Nat × Option Bool) → Bool → Array Bool → Bool
  | [], fin, L => fin && (Region.ready md ops (L.setIfInBounds j true)).isEmpty
  | (i, some true) :: r, fin, L => (decide (i ≠ j)) && (Region.ready md ops (L.setIfInBounds j true)).contains i && Region.free md ops (L.setIfInBounds j true) i && (fin || ((Region.ready md ops L).contains i && Region.free md ops L i)) && ordFB md ops j r fin (L.setIfInBounds i true)
  | (_, none) :: r, fin, L => !fin && decide (Region.ready md ops L = [j]) && ordFB md ops j r true L
  | (i, some false) :: r, fin, L => (decide (i ≠ j)) && decide (Region.ready md ops (L.setIfInBounds j true) = [i]) && (fin || (!(Region.ready md ops L).isEmpty && (Region.ready md ops L).all fun k => k == i || k == j)) && ordFB md ops j r fin (L.setIfInBounds i true)

theorem wpAnyH_end {S : World → Prop} {listed : Array Bool} {a : Act} {w : World} (hr : Region.ready md ops listed = []) (h : Q .normal a w) : ∀ fuel, wpAnyH P md ops Q S fuel listed a w
  | 0 => ⟨hr, h⟩
  | fuel + 1 => ⟨fun _ => h, fun i hi => by rw [hr] at hi; cases hi⟩

def fcnt (pd : Bool) (n : Nat) : Nat := if pd = true then n + 1 else n
def flist (pd : Bool) (j : Nat) (L : Array Bool) : Array Bool := if pd = true then L else L.setIfInBounds j true

theorem wpOrdF_sound (hsel : Region.noSelect ops = true) (hQ : ∀ c a d v w, Q (.panic c) (Act.put a d v) w → Q (.panic c) a w) :
    ∀ (l : List (Nat × Option Bool)) (fin : Bool) (L : Array Bool) (pd : Bool) (a : Act) (w : World) (fuel : Nat), ordFB md ops j l fin L = true → (fin = true → pd = false) → fcnt pd (lenF l) ≤ fuel → w0.grownBy w none →
      wpOrdF P ops Q w0 j (Q .normal) l pd a w → wpAnyH P md ops Q (fun w => w0.grownBy w none) fuel (flist pd j L) a w := by
  intro l
  induction l with
  | nil =>
    intro fin L pd a w fuel hB hfin hn hg h
    simp only [ordFB, Bool.and_eq_true] at hB
    obtain ⟨rfl, h⟩ := h
    exact wpAnyH_end (by simpa [flist] using hB.2) h fuel
  | cons x r ih =>
    obtain ⟨i, m⟩ := x
    intro fin L pd a w fuel hB hfin hn hg h
    rcases m with _ | m
    · skip
      simp only [ordFB, Bool.and_eq_true, decide_eq_true_eq] at hB
      obtain ⟨⟨_, hr⟩, hB'⟩ := hB
      simp only [wpOrdF] at h
      cases pd with
      | false => exact ih true L false a w fuel hB' (fun _ => rfl) (by simpa [fcnt, lenF] using hn) hg (h.2 rfl)
      | true =>
        obtain ⟨f, rfl⟩ : ∃ f, fuel = f + 1 := by
          cases fuel with
          | zero => simp [fcnt, lenF] at hn
          | succ f => exact ⟨f, rfl⟩
        refine wpAnyH_all (show Region.ready md ops (flist true j L) = [j] from hr) (by simp) (fun k hk => ?_)
        obtain rfl : k = j := by simpa using hk
        exact wpOp_mono (fun a' w' h' => ⟨h'.1, ih true L false a' w' f hB' (fun _ => rfl) (by simp [fcnt, lenF] at hn ⊢; omega) h'.1 h'.2⟩) (h.1 rfl)
    cases m with
    | true =>
      simp only [ordFB, Bool.and_eq_true, Bool.or_eq_true, decide_eq_true_eq] at hB
      obtain ⟨⟨⟨⟨hij, hr⟩, hf⟩, hor⟩, hB'⟩ := hB
      have hr2 : (Region.ready md ops (flist pd j L)).contains i = true ∧ Region.free md ops (flist pd j L) i = true := by
        cases pd with
        | false => exact ⟨hr, hf⟩
        | true =>
          rcases hor with h1 | h1
          · have := hfin h1; cases this
          · exact h1
      have hset : (flist pd j L).setIfInBounds i true = flist pd j (L.setIfInBounds i true) := by
        cases pd with
        | false => exact Array.setIfInBounds_comm _ _ (fun e => hij e.symm)
        | true => rfl
      obtain ⟨f, rfl⟩ : ∃ f, fuel = f + 1 := by
        cases fuel with
        | zero => cases pd <;> simp [fcnt, lenF] at hn
        | succ f => exact ⟨f, rfl⟩
      have hn' : fcnt pd (lenF r) ≤ f := by cases pd <;> simp [fcnt, lenF] at hn ⊢ <;> omega
      simp only [wpOrdF] at h
      split at h
      · exact h.elim
      · rename_i o ho
        have go : ∀ v, YieldsIf P ops (fun w => w0.grownBy w none) o v a → wpOrdF P ops Q w0 j (Q .normal) r pd (a.put o.dst v) w → wpAnyH P md ops Q (fun w => w0.grownBy w none) (f + 1) (flist pd j L) a w := fun v hy h2 =>
          wpAnyH_take ho hsel hr2.2 hr2.1 (fun c a w => hQ c a _ _ w) hy hg (by rw [hset]; exact ih fin _ pd _ w f hB' hfin hn' hg h2)
        split at h
        · rename_i hw
          obtain ⟨v, h1, h2⟩ := h
          refine go v (.inl ⟨hw, fun w' hw' => ?_⟩) h2
          obtain ⟨x, rfl⟩ := ext_of_grown hw'
          exact h1 x
        · rename_i hw
          exact go undef (.inr ⟨by simpa using hw, rfl⟩) h
    | false =>
      simp only [ordFB, Bool.and_eq_true, Bool.or_eq_true, decide_eq_true_eq] at hB
      obtain ⟨⟨⟨hij, hr⟩, hor⟩, hB'⟩ := hB
      have hc : (L.setIfInBounds j true).setIfInBounds i true = (L.setIfInBounds i true).setIfInBounds j true := Array.setIfInBounds_comm _ _ (fun e => hij e.symm)
      simp only [wpOrdF] at h
      cases pd with
      | false =>
        obtain ⟨f, rfl⟩ : ∃ f, fuel = f + 1 := by
          cases fuel with
          | zero => simp [fcnt, lenF] at hn
          | succ f => exact ⟨f, rfl⟩
        refine wpAnyH_all (show Region.ready md ops (flist false j L) = [i] from hr) (by simp) (fun k hk => ?_)
        obtain rfl : k = i := by simpa using hk
        refine wpOp_mono (fun a' w' h' => ⟨h'.1, ?_⟩) h.1
        have := ih fin (L.setIfInBounds k true) false a' w' f hB' hfin (by simp [fcnt, lenF] at hn ⊢; omega) h'.1 h'.2
        simpa [flist, hc] using this
      | true =>
        have hall : ¬ Region.ready md ops L = [] ∧ ∀ k ∈ Region.ready md ops L, k = i ∨ k = j := by
          rcases hor with h1 | h1
          · have := hfin h1; cases this
          · exact ⟨by simpa using h1.1, fun k hk => by simpa using List.all_eq_true.1 h1.2 k hk⟩
        obtain ⟨f, rfl⟩ : ∃ f, fuel = f + 1 + 1 := by
          match fuel, hn with
          | 0, hn => simp [fcnt, lenF] at hn
          | 1, hn => simp [fcnt, lenF] at hn
          | f + 2, _ => exact ⟨f, rfl⟩
        have h1 := h.2 rfl
        refine ⟨fun h0 => (hall.1 h0).elim, fun k hk => ?_⟩
        rcases hall.2 k hk with rfl | rfl
        · exact wpOp_mono (fun a' w' h' => ⟨h'.1, ih fin (L.setIfInBounds k true) true a' w' (f + 1) hB' hfin (by simp [fcnt, lenF] at hn ⊢; omega) h'.1 h'.2⟩) h.1
        · refine wpOp_mono (fun a1 w1 h' => ⟨h'.1, ?_⟩) h1
          refine wpAnyH_all (rs := [i]) hr (by simp) (fun q hq => ?_)
          obtain rfl : q = i := by simpa using hq
          refine wpOp_mono (fun a' w' h'' => ⟨h''.1, ?_⟩) h'.2
          have := ih fin (L.setIfInBounds q true) false a' w' f hB' (fun _ => rfl) (by simp [fcnt, lenF] at hn ⊢; omega) h''.1 h''.2
          simpa [flist, hc] using this

/-- A region in the order 'ord', where number j makes a variable at no fixed time. -/
theorem wp_region_float {id : Nat} {a : Act} {w : World} {l : List Oper} (j : Nat) (ord : List (Nat × Option Bool)) (hm : P.follows .mixedOrders = true)
    (hB : (Region.noSelect l.toArray && decide (lenF ord + 1 = l.length) && ordFB .any l.toArray j ord false (Array.replicate l.length false)) = true)
    (h : wpOrdF P l.toArray (NoPanic Q) w j (NoPanic Q .normal) ord true a w.drew) : (Code.region id l.toArray true).wp P Q a w := by
  simp only [Bool.and_eq_true, decide_eq_true_eq] at hB
  obtain ⟨⟨h1, h2⟩, h3⟩ := hB
  refine wp_region_noPanic (wp_region_any hm ?_)
  have := wpOrdF_sound (md := .any) (w0 := w) h1 (fun c a d v w h => (h : False).elim) ord false _ true a w.drew l.length h3 (fun h => by cases h) (by simp [fcnt]; omega) (grown_draw w) h
  exact wpAny_of_held _ _ _ _ (by simpa [flist] using this)

theorem wpOrdF_nil {T : Act → World → Prop} {a : Act} {w : World} (h : T a w) : wpOrdF P ops Q w0 j T [] false a w := ⟨rfl, h⟩
theorem wpOrdF_soft {T : Act → World → Prop} {i : Nat} {pd : Bool} {r : List (Nat × Option Bool)} {a : Act} {w : World}
    (h : ∀ K : Act → Prop, (∀ a, wpOrdF P ops Q w0 j T r pd a w → K a) → match ops[i]? with | none => False | some o => if Region.wanted o (yielded ops a.tmps) = true then softAt P w0 none o a K else K (a.put o.dst undef)) : wpOrdF P ops Q w0 j T ((i, some true) :: r) pd a w :=
  h _ fun _ h => h

theorem put_self {a : Act} {d : Nat} (hd : d < a.tmps.size) : a.put (some d) (a.tmps.getD d undef) = a := by
  cases a with
  | mk tmps defers =>
    have hd' : d < tmps.size := hd
    show Act.mk (tmps.setIfInBounds d (tmps.getD d undef)) defers = Act.mk tmps defers
    congr 1
    apply Array.ext_getElem?
    intro i
    rw [Array.getElem?_setIfInBounds]
    split
    · rename_i e; subst e; simp [Array.getD, hd']
    · rfl

/-- A step that is taken whether the variable is there or not. -/
theorem wpOrdF_hard {T : Act → World → Prop} {i d : Nat} {pd : Bool} {obj : Obj} {L : List (Nat × Nat)} {r : List (Nat × Option Bool)} {a : Act} {w : World}
    (hal : ∀ (K : Act → World → Prop) (a : Act) (w : World), K (a.put (some d) (.pointer (some ⟨w.heap.size, 0, none⟩))) (w.alloc obj) → wpOp P ops Q j K a w)
    (hd : d < a.tmps.size) (hg : w0.grownBy w none) (hf : Fl w0 obj L pd (a.tmps.getD d undef) w)
    (h : ∀ pd' u w', Below w.heap.size w w' → w0.grownBy w' none → Fl w0 obj L pd' u w' → match ops[i]? with | none => False | some o => wpList P ops (only Q fun a' w'' => w0.grownBy w'' none ∧ wpOrdF P ops Q w0 j T r pd' a' w'') [o] (a.put (some d) u) w') : wpOrdF P ops Q w0 j T ((i, some false) :: r) pd a w := by
  simp only [wpOrdF]
  refine ⟨?_, fun hp => hal _ _ _ ?_⟩
  · have := h pd _ w (Below.refl _ _) hg hf
    rw [put_self hd] at this
    exact wpOp_only this
  · subst hp
    have hg' : w0.grownBy (w.alloc obj) none := grown_trans hg (World.grownBy_alloc _ _ _)
    refine ⟨hg', wpOp_only (h false _ _ ((Below.refl _ _).alloc (Nat.le_refl _) _) hg' ?_)⟩
    rcases hf with ⟨_, h1, h2⟩ | ⟨h1, _⟩
    · refine .inr ⟨rfl, w.heap.size, rfl, h1, by simp, heap_alloc_new w _, fun q hq => .inr (h2 q hq)⟩
    · cases h1
theorem wpOrdF_settle {T : Act → World → Prop} {i d : Nat} {pd : Bool} {obj : Obj} {L : List (Nat × Nat)} {r : List (Nat × Option Bool)} {a : Act} {w : World}
    (hal : ∀ (K : Act → World → Prop) (a : Act) (w : World), K (a.put (some d) (.pointer (some ⟨w.heap.size, 0, none⟩))) (w.alloc obj) → wpOp P ops Q j K a w)
    (hd : d < a.tmps.size) (hg : w0.grownBy w none) (hf : Fl w0 obj L pd (a.tmps.getD d undef) w)
    (h : ∀ b w', Below w.heap.size w w' → w0.grownBy w' none → w0.heap.size ≤ b → b < w'.heap.size → w'.heap[b]? = some obj → (∀ q ∈ L, b < q.1 ∨ q.2 ≤ b) → wpOrdF P ops Q w0 j T r false (a.put (some d) (.pointer (some ⟨b, 0, none⟩))) w') : wpOrdF P ops Q w0 j T ((i, none) :: r) pd a w := by
  simp only [wpOrdF]
  refine ⟨fun hp => hal _ _ _ ?_, fun hp => ?_⟩
  · subst hp
    have hg' : w0.grownBy (w.alloc obj) none := grown_trans hg (World.grownBy_alloc _ _ _)
    rcases hf with ⟨_, h1, h2⟩ | ⟨h1, _⟩
    · exact ⟨hg', h w.heap.size _ ((Below.refl _ _).alloc (Nat.le_refl _) _) hg' h1 (by simp) (heap_alloc_new w _) (fun q hq => .inr (h2 q hq))⟩
    · cases h1
  · subst hp
    rcases hf with ⟨h1, _⟩ | ⟨_, b, h1, h2, h3, h4, h5⟩
    · cases h1
    · have := h b w (Below.refl _ _) hg h2 h3 h4 h5
      rw [← h1, put_self hd] at this
      exact this
theorem wpOrdF_last {T : Act → World → Prop} {i : Nat} {r : List (Nat × Option Bool)} {a : Act} {w : World}
    (h : match ops[i]? with | none => False | some o => wpList P ops (only Q fun a' w'' => w0.grownBy w'' none ∧ wpOrdF P ops Q w0 j T r false a' w'') [o] a w) : wpOrdF P ops Q w0 j T ((i, some false) :: r) false a w :=
  ⟨wpOp_only h, fun h => by cases h⟩
theorem grown_setNew {a w : World} (h : a.grownBy w none) {p : Addr} (hp : a.heap.size ≤ p.block) (u : Value) : a.grownBy (w.setCell p u) none :=
  ⟨h.os, h.tape, h.output, by have := h.size; simpa [World.setCell] using this, fun k hk hne => (Below.heap_setCell _ _ _ _ (by omega)).trans (h.block k hk hne)⟩
/-- A cell of a block that is as it was made. -/
theorem cell_fresh {w : World} {b o : Nat} {cs : Array Value} {e : TypeId} {u : Value} (h : w.heap[b]? = some (.cells cs e)) (hu : cs[o]? = some u) : w.cell? ⟨b, o, none⟩ = some u := by
  rw [cell_of_row w b o cs e (0, 0) h]; exact hu
theorem frozen_fresh {w : World} {b o : Nat} {cs : Array Value} {e : TypeId} (h : w.heap[b]? = some (.cells cs e)) : w.frozen? ⟨b, o, none⟩ = false := by
  unfold World.frozen?
  rw [h]
  rfl

end
end Go.Proofs.Ytemmnjokojgjaaa
/- Contracts of ArrangeTune, ArrangeCost and BestShift of both packages. -/
set_option linter.unusedSimpArgs false
set_option linter.unnecessarySimpa false
set_option linter.unusedVariables false
set_option maxRecDepth 100000
namespace Go.Proofs.Ytemmnjokojgjaaa
open Go.RowKit

theorem arC_w {x : TunD} {ns : List Int} {b : Int} (hx : validTunB x = true) (hs : SetIn ns) : IntKind.i64.wrap (10 * arD x ns b) = 10 * arD x ns b ∧ IntKind.i64.wrap (arM x ns b + 10 * arD x ns b) = arM x ns b + 10 * arD x ns b := by
  have := ar_bd (b := b) hx hs
  exact ⟨IntWalk.i64_in _ (by omega), IntWalk.i64_in _ (by omega)⟩

set_option maxHeartbeats 1000000 in
theorem arrangeCost_any (vt lv v : Value) (x : TunD) (ns : List Int) (b : Int) (w : World) (h : Tun w vt lv x) (hn : Ints w v ns) (ok : validTunB x = true) (hset : SetIn ns) (hs : shiftIn b) (hnm : x.name.size ≤ maxLen) (o : Int) (ho : o = arC x ns b) :
    Calls Try.prog 50 #[vt, v, .int .i64 b] w fun e w' => e = .returned (.int .i64 o) ∧ Below w.heap.size w w' := by
  obtain ⟨rfl, hlv⟩ := h
  obtain ⟨a9, c9, rfl, _, _, _⟩ := id hn
  obtain ⟨q1, q2⟩ := arC_w (b := b) ok hset
  have HO := Lib.hid ho
  have HC := Lib.hid (show arM x ns b = mvCnt (arTo ns b x.tones x.tones.length).2 (arTo ns b x.tones x.tones.length).1.length ∧ arD x ns b = (x.tones.length : Int) - (arTo ns b x.tones x.tones.length).1.length from ⟨rfl, rfl⟩)
  clear ho
  go_enter Try.func50, Try.ntmps50
  go_wp2_with fail
  refine (arrange_any _ lv _ x ns b _ ⟨rfl, hlv.mono (by (repeat (first | with_reducible exact Below.refl _ _ | with_reducible exact hbw | (with_reducible refine Below.setCell ?_ ?_ _; rotate_left; · first | exact Nat.le_refl _ | omega | (simp; done) | (simp; omega)) | (with_reducible refine Below.alloc ?_ ?_ _; rotate_left; · first | exact Nat.le_refl _ | omega | (simp; done) | (simp; omega)) | with_reducible refine below_drewN ?_ _ | with_reducible refine Below.drew ?_)))⟩ (Ints.mono hn (by (repeat (first | with_reducible exact Below.refl _ _ | with_reducible exact hbw | (with_reducible refine Below.setCell ?_ ?_ _; rotate_left; · first | exact Nat.le_refl _ | omega | (simp; done) | (simp; omega)) | (with_reducible refine Below.alloc ?_ ?_ _; rotate_left; · first | exact Nat.le_refl _ | omega | (simp; done) | (simp; omega)) | with_reducible refine below_drewN ?_ _ | with_reducible refine Below.drew ?_)))) ok hset hs hnm).mono ?_
  rw [← HC.out.1, ← HC.out.2]
  rintro e w1 ⟨v1, rfl, ⟨l1, rfl, ho1⟩, hb⟩
  obtain ⟨a1, c1, rfl⟩ := ho1.form
  have hbw : Below w.heap.size w w1 := Below.trans (by (repeat (first | with_reducible exact Below.refl _ _ | with_reducible exact hbw | (with_reducible refine Below.setCell ?_ ?_ _; rotate_left; · first | exact Nat.le_refl _ | omega | (simp; done) | (simp; omega)) | (with_reducible refine Below.alloc ?_ ?_ _; rotate_left; · first | exact Nat.le_refl _ | omega | (simp; done) | (simp; omega)) | with_reducible refine below_drewN ?_ _ | with_reducible refine Below.drew ?_))) (hb.mono (by simp <;> omega))
  have HB := Lib.hid hbw
  clear hb ho1 hbw
  go_wp2
  go_ret
  refine ⟨ret_int (by rw [HO.out]; rfl), ?_⟩
  have hbw := HB.out
  have hz := hbw.size
  (repeat (first | with_reducible exact Below.refl _ _ | with_reducible exact hbw | (with_reducible refine Below.setCell ?_ ?_ _; rotate_left; · first | exact Nat.le_refl _ | omega | (simp; done) | (simp; omega)) | (with_reducible refine Below.alloc ?_ ?_ _; rotate_left; · first | exact Nat.le_refl _ | omega | (simp; done) | (simp; omega)) | with_reducible refine below_drewN ?_ _ | with_reducible refine Below.drew ?_))

set_option maxHeartbeats 1000000 in
theorem l26Cost_any (kb : Nat) (lv v : Value) (x : TunD) (ns : List Int) (b : Int) (w : World) (h : TunIn w kb lv x) (hn : Ints w v ns) (ok : validTunB x = true) (hset : SetIn ns) (hs : shiftIn b) (o : Int) (ho : o = arC x ns b) :
    Calls Try.prog 49 #[.pointer (some ⟨kb, 0, none⟩), v, .int .i64 b] w fun e w' => e = .returned (.int .i64 o) ∧ Below w.heap.size w w' := by
  obtain ⟨a9, c9, rfl, _, _, _⟩ := id hn
  obtain ⟨q1, q2⟩ := arC_w (b := b) ok hset
  have HO := Lib.hid ho
  have HT := Lib.hid h
  clear ho h
  go_enter Try.func49, Try.ntmps49
  go_wp2_with fail
  refine (l26Arrange_any _ lv _ x ns b _ HT.out hn ok hset hs).mono ?_
  rintro e w1 ⟨v1, rfl, ⟨l1, rfl, ho1⟩, hb⟩
  obtain ⟨a1, c1, rfl⟩ := ho1.form
  have HB := Lib.hid hb
  clear hb ho1
  go_wp2
  go_ret
  refine ⟨ret_int (by rw [HO.out]; rfl), ?_⟩
  have hbw := HB.out
  have hz := hbw.size
  (repeat (first | with_reducible exact Below.refl _ _ | with_reducible exact hbw | (with_reducible refine Below.setCell ?_ ?_ _; rotate_left; · first | exact Nat.le_refl _ | omega | (simp; done) | (simp; omega)) | (with_reducible refine Below.alloc ?_ ?_ _; rotate_left; · first | exact Nat.le_refl _ | omega | (simp; done) | (simp; omega)) | with_reducible refine below_drewN ?_ _ | with_reducible refine Below.drew ?_))

set_option maxHeartbeats 1000000 in
theorem specArrangeCost_any (v : Value) (x : TunD) (v2 : Value) (ns : List Int) (b : Int) (w : World) (h : RdTun w v x) (ok : x.ok) (_ : x.tones.length ≤ 1048576) (hn : RdInts w v2 ns) (_ : ∀ x ∈ ns, I64 x) (_ : ns.length ≤ 1048576) (_ : I64 b) :
    Calls Try.prog 18 #[v, v2, .int .i64 b] w fun e w' => e = .returned (.tuple #[.int .i64 (acoV x ns b), .int .i64 (askC x ns b)]) ∧ Below w.heap.size w w' := by
  obtain ⟨lv, rfl, hlv⟩ := h
  have hn : Ints w v2 ns := hn
  obtain ⟨a1, cs1, rfl, _, _, _⟩ := id hn
  by_cases ga : askC x ns b = 0
  · have AV := Lib.hid (ask_zero.1 ga)
    have E := Lib.hid (show acoV x ns b = arC x ns b by unfold acoV; rw [if_pos ga])
    have d0 : (askC x ns b != 0) = false := by simpa using ga
    have A0 := Lib.hid ga; clear ga
    go_enter Try.func18, Try.ntmps18
    go_wp2_with fail
    refine (l26Ask_any _ lv _ x ns b _ ⟨by simp [go_sem], by simp [go_sem], hlv.mono (by (repeat (first | with_reducible exact Below.refl _ _ | with_reducible exact hbw | (with_reducible refine Below.setCell ?_ ?_ _; rotate_left; · first | exact Nat.le_refl _ | omega | (simp; done) | (simp; omega)) | (with_reducible refine Below.alloc ?_ ?_ _; rotate_left; · first | exact Nat.le_refl _ | omega | (simp; done) | (simp; omega)) | with_reducible refine below_drewN ?_ _ | with_reducible refine Below.drew ?_))), ok.1⟩ (Ints.mono hn (by (repeat (first | with_reducible exact Below.refl _ _ | with_reducible exact hbw | (with_reducible refine Below.setCell ?_ ?_ _; rotate_left; · first | exact Nat.le_refl _ | omega | (simp; done) | (simp; omega)) | (with_reducible refine Below.alloc ?_ ?_ _; rotate_left; · first | exact Nat.le_refl _ | omega | (simp; done) | (simp; omega)) | with_reducible refine below_drewN ?_ _ | with_reducible refine Below.drew ?_))))).mono ?_
    rintro e w1 ⟨rfl, hb⟩
    have hbw : Below w.heap.size w w1 := Below.trans (by (repeat (first | with_reducible exact Below.refl _ _ | with_reducible exact hbw | (with_reducible refine Below.setCell ?_ ?_ _; rotate_left; · first | exact Nat.le_refl _ | omega | (simp; done) | (simp; omega)) | (with_reducible refine Below.alloc ?_ ?_ _; rotate_left; · first | exact Nat.le_refl _ | omega | (simp; done) | (simp; omega)) | with_reducible refine below_drewN ?_ _ | with_reducible refine Below.drew ?_))) (hb.mono (by simp <;> omega))
    have y0 : w1.cell? ⟨w.heap.size, 0, none⟩ = some (.string x.name) := cellB hb (by simp [go_sem])
    have y1 : w1.cell? ⟨w.heap.size, 1, none⟩ = some lv := cellB hb (by simp [go_sem])
    have hz1 : w.heap.size < w1.heap.size := by have := hb.size; simp at this; omega
    clear hb
    go_wp2_with fail
    refine (l26Cost_any _ lv _ x ns b _ ⟨y0, y1, hlv.mono hbw, ok.1⟩ (Ints.mono hn hbw) AV.out.1 (set_in AV.out.2.1) AV.out.2.2 _ rfl).mono ?_
    rintro e w2 ⟨rfl, h2⟩
    go_wp2
    go_ret2
    exact ⟨by rw [E.out, A0.out]; rfl, hbw.trans (h2.mono hbw.size)⟩
  · have E := Lib.hid (show acoV x ns b = 0 by unfold acoV; rw [if_neg ga])
    have d0 : (askC x ns b != 0) = true := by simpa using ga
    clear ga
    go_enter Try.func18, Try.ntmps18
    go_wp2_with fail
    refine (l26Ask_any _ lv _ x ns b _ ⟨by simp [go_sem], by simp [go_sem], hlv.mono (by (repeat (first | with_reducible exact Below.refl _ _ | with_reducible exact hbw | (with_reducible refine Below.setCell ?_ ?_ _; rotate_left; · first | exact Nat.le_refl _ | omega | (simp; done) | (simp; omega)) | (with_reducible refine Below.alloc ?_ ?_ _; rotate_left; · first | exact Nat.le_refl _ | omega | (simp; done) | (simp; omega)) | with_reducible refine below_drewN ?_ _ | with_reducible refine Below.drew ?_))), ok.1⟩ (Ints.mono hn (by (repeat (first | with_reducible exact Below.refl _ _ | with_reducible exact hbw | (with_reducible refine Below.setCell ?_ ?_ _; rotate_left; · first | exact Nat.le_refl _ | omega | (simp; done) | (simp; omega)) | (with_reducible refine Below.alloc ?_ ?_ _; rotate_left; · first | exact Nat.le_refl _ | omega | (simp; done) | (simp; omega)) | with_reducible refine below_drewN ?_ _ | with_reducible refine Below.drew ?_))))).mono ?_
    rintro e w1 ⟨rfl, hb⟩
    have hbw : Below w.heap.size w w1 := Below.trans (by (repeat (first | with_reducible exact Below.refl _ _ | with_reducible exact hbw | (with_reducible refine Below.setCell ?_ ?_ _; rotate_left; · first | exact Nat.le_refl _ | omega | (simp; done) | (simp; omega)) | (with_reducible refine Below.alloc ?_ ?_ _; rotate_left; · first | exact Nat.le_refl _ | omega | (simp; done) | (simp; omega)) | with_reducible refine below_drewN ?_ _ | with_reducible refine Below.drew ?_))) (hb.mono (by simp <;> omega))
    have y0 : w1.cell? ⟨w.heap.size, 0, none⟩ = some (.string x.name) := cellB hb (by simp [go_sem])
    have y1 : w1.cell? ⟨w.heap.size, 1, none⟩ = some lv := cellB hb (by simp [go_sem])
    have hz1 : w.heap.size < w1.heap.size := by have := hb.size; simp at this; omega
    clear hb
    go_wp2
    go_ret2
    exact ⟨by rw [E.out]; rfl, hbw⟩

set_option maxHeartbeats 1000000 in
theorem implArrangeCost_any (v : Value) (x : TunD) (v2 : Value) (ns : List Int) (b : Int) (w : World) (h : RdTun w v x) (ok : x.ok) (_ : x.tones.length ≤ 1048576) (hn : RdInts w v2 ns) (_ : ∀ x ∈ ns, I64 x) (_ : ns.length ≤ 1048576) (_ : I64 b) :
    Calls Try.prog 19 #[v, v2, .int .i64 b] w fun e w' => e = .returned (.tuple #[.int .i64 (acoV x ns b), .int .i64 (askC x ns b)]) ∧ Below w.heap.size w w' := by
  obtain ⟨lv, rfl, hlv⟩ := h
  have hn : Ints w v2 ns := hn
  obtain ⟨a1, cs1, rfl, _, _, _⟩ := id hn
  by_cases ga : askC x ns b = 0
  · have AV := Lib.hid (ask_zero.1 ga)
    have E := Lib.hid (show acoV x ns b = arC x ns b by unfold acoV; rw [if_pos ga])
    have d0 : (askC x ns b != 0) = false := by simpa using ga
    have A0 := Lib.hid ga; clear ga
    go_enter Try.func19, Try.ntmps19
    go_wp2_with fail
    refine (arranged_any _ lv _ x ns b _ ⟨rfl, hlv.mono (by (repeat (first | with_reducible exact Below.refl _ _ | with_reducible exact hbw | (with_reducible refine Below.setCell ?_ ?_ _; rotate_left; · first | exact Nat.le_refl _ | omega | (simp; done) | (simp; omega)) | (with_reducible refine Below.alloc ?_ ?_ _; rotate_left; · first | exact Nat.le_refl _ | omega | (simp; done) | (simp; omega)) | with_reducible refine below_drewN ?_ _ | with_reducible refine Below.drew ?_)))⟩ ok.1 (Ints.mono hn (by (repeat (first | with_reducible exact Below.refl _ _ | with_reducible exact hbw | (with_reducible refine Below.setCell ?_ ?_ _; rotate_left; · first | exact Nat.le_refl _ | omega | (simp; done) | (simp; omega)) | (with_reducible refine Below.alloc ?_ ?_ _; rotate_left; · first | exact Nat.le_refl _ | omega | (simp; done) | (simp; omega)) | with_reducible refine below_drewN ?_ _ | with_reducible refine Below.drew ?_))))).mono ?_
    rintro e w1 ⟨rfl, hb⟩
    have hbw : Below w.heap.size w w1 := Below.trans (by (repeat (first | with_reducible exact Below.refl _ _ | with_reducible exact hbw | (with_reducible refine Below.setCell ?_ ?_ _; rotate_left; · first | exact Nat.le_refl _ | omega | (simp; done) | (simp; omega)) | (with_reducible refine Below.alloc ?_ ?_ _; rotate_left; · first | exact Nat.le_refl _ | omega | (simp; done) | (simp; omega)) | with_reducible refine below_drewN ?_ _ | with_reducible refine Below.drew ?_))) (hb.mono (by simp <;> omega))
    have y0 : w1.cell? ⟨w.heap.size, 0, none⟩ = some (.string x.name) := cellB hb (by simp [go_sem])
    have y1 : w1.cell? ⟨w.heap.size, 1, none⟩ = some lv := cellB hb (by simp [go_sem])
    have hz1 : w.heap.size < w1.heap.size := by have := hb.size; simp at this; omega
    clear hb
    go_wp2_with fail
    refine (arrangeCost_any _ lv _ x ns b _ ⟨rfl, hlv.mono hbw⟩ (Ints.mono hn hbw) AV.out.1 (set_in AV.out.2.1) AV.out.2.2 ok.1 _ rfl).mono ?_
    rintro e w2 ⟨rfl, h2⟩
    go_wp2
    go_ret2
    exact ⟨by rw [E.out, A0.out]; rfl, hbw.trans (h2.mono hbw.size)⟩
  · have E := Lib.hid (show acoV x ns b = 0 by unfold acoV; rw [if_neg ga])
    have d0 : (askC x ns b != 0) = true := by simpa using ga
    clear ga
    go_enter Try.func19, Try.ntmps19
    go_wp2_with fail
    refine (arranged_any _ lv _ x ns b _ ⟨rfl, hlv.mono (by (repeat (first | with_reducible exact Below.refl _ _ | with_reducible exact hbw | (with_reducible refine Below.setCell ?_ ?_ _; rotate_left; · first | exact Nat.le_refl _ | omega | (simp; done) | (simp; omega)) | (with_reducible refine Below.alloc ?_ ?_ _; rotate_left; · first | exact Nat.le_refl _ | omega | (simp; done) | (simp; omega)) | with_reducible refine below_drewN ?_ _ | with_reducible refine Below.drew ?_)))⟩ ok.1 (Ints.mono hn (by (repeat (first | with_reducible exact Below.refl _ _ | with_reducible exact hbw | (with_reducible refine Below.setCell ?_ ?_ _; rotate_left; · first | exact Nat.le_refl _ | omega | (simp; done) | (simp; omega)) | (with_reducible refine Below.alloc ?_ ?_ _; rotate_left; · first | exact Nat.le_refl _ | omega | (simp; done) | (simp; omega)) | with_reducible refine below_drewN ?_ _ | with_reducible refine Below.drew ?_))))).mono ?_
    rintro e w1 ⟨rfl, hb⟩
    have hbw : Below w.heap.size w w1 := Below.trans (by (repeat (first | with_reducible exact Below.refl _ _ | with_reducible exact hbw | (with_reducible refine Below.setCell ?_ ?_ _; rotate_left; · first | exact Nat.le_refl _ | omega | (simp; done) | (simp; omega)) | (with_reducible refine Below.alloc ?_ ?_ _; rotate_left; · first | exact Nat.le_refl _ | omega | (simp; done) | (simp; omega)) | with_reducible refine below_drewN ?_ _ | with_reducible refine Below.drew ?_))) (hb.mono (by simp <;> omega))
    have y0 : w1.cell? ⟨w.heap.size, 0, none⟩ = some (.string x.name) := cellB hb (by simp [go_sem])
    have y1 : w1.cell? ⟨w.heap.size, 1, none⟩ = some lv := cellB hb (by simp [go_sem])
    have hz1 : w.heap.size < w1.heap.size := by have := hb.size; simp at this; omega
    clear hb
    go_wp2
    go_ret2
    exact ⟨by rw [E.out]; rfl, hbw⟩

/-- The best shift and its cost, of the first k that are tried. -/
noncomputable def bsTo (x : TunD) (ns : List Int) : Nat → Int × Int
  | 0 => (0, arC x ns 0)
  | k + 1 => if arC x ns (shK k) < (bsTo x ns k).2 then (shK k, arC x ns (shK k)) else bsTo x ns k
theorem bs_yes {x : TunD} {ns : List Int} {k : Nat} (h : arC x ns (shK k) < (bsTo x ns k).2) : bsTo x ns (k + 1) = (shK k, arC x ns (shK k)) := by
  conv => lhs; unfold bsTo
  rw [if_pos h]
theorem bs_no {x : TunD} {ns : List Int} {k : Nat} (h : ¬ arC x ns (shK k) < (bsTo x ns k).2) : bsTo x ns (k + 1) = bsTo x ns k := by
  conv => lhs; unfold bsTo
  rw [if_neg h]
theorem bs_one (x : TunD) (ns : List Int) : bsTo x ns 1 = (0, arC x ns 0) := by
  rw [bs_no]
  · rfl
  · show ¬ arC x ns (shK 0) < arC x ns 0
    have : shK 0 = 0 := rfl
    rw [this]; omega
noncomputable def bsN (x : TunD) (ns : List Int) : Int := if askC x ns 0 = 0 then (bsTo x ns 49).1 else 0
noncomputable def bsL (x : TunD) (ns : List Int) : Int := if askC x ns 0 = 0 then (bsTo x ns 49).2 else 0

set_option maxHeartbeats 2000000 in
theorem specBestShift_any (v : Value) (x : TunD) (v2 : Value) (ns : List Int) (w : World) (h : RdTun w v x) (ok : x.ok) (_ : x.tones.length ≤ 1048576) (hn : RdInts w v2 ns) (_ : ∀ x ∈ ns, I64 x) (_ : ns.length ≤ 1048576) :
    Calls Try.prog 20 #[v, v2] w fun e w' => e = .returned (.tuple #[.int .i64 (bsN x ns), .int .i64 (bsL x ns), .int .i64 (askC x ns 0)]) ∧ Below w.heap.size w w' := by
  obtain ⟨lv, rfl, hlv⟩ := h
  have hn : Ints w v2 ns := hn
  obtain ⟨a1, cs1, rfl, _, _, _⟩ := id hn
  by_cases ga : askC x ns 0 = 0
  · have AV := Lib.hid (ask_zero.1 ga)
    have E := Lib.hid (show bsN x ns = (bsTo x ns 49).1 ∧ bsL x ns = (bsTo x ns 49).2 by unfold bsN bsL; rw [if_pos ga, if_pos ga]; exact ⟨rfl, rfl⟩)
    have d0 : (askC x ns 0 != 0) = false := by simpa using ga
    have A0 := Lib.hid ga; clear ga
    go_enter Try.func20, Try.ntmps20
    go_wp2_with fail
    refine (l26Ask_any _ lv _ x ns 0 _ ⟨by simp [go_sem], by simp [go_sem], hlv.mono (by (repeat (first | with_reducible exact Below.refl _ _ | with_reducible exact hbw | (with_reducible refine Below.setCell ?_ ?_ _; rotate_left; · first | exact Nat.le_refl _ | omega | (simp; done) | (simp; omega)) | (with_reducible refine Below.alloc ?_ ?_ _; rotate_left; · first | exact Nat.le_refl _ | omega | (simp; done) | (simp; omega)) | with_reducible refine below_drewN ?_ _ | with_reducible refine Below.drew ?_))), ok.1⟩ (Ints.mono hn (by (repeat (first | with_reducible exact Below.refl _ _ | with_reducible exact hbw | (with_reducible refine Below.setCell ?_ ?_ _; rotate_left; · first | exact Nat.le_refl _ | omega | (simp; done) | (simp; omega)) | (with_reducible refine Below.alloc ?_ ?_ _; rotate_left; · first | exact Nat.le_refl _ | omega | (simp; done) | (simp; omega)) | with_reducible refine below_drewN ?_ _ | with_reducible refine Below.drew ?_))))).mono ?_
    rintro e w1 ⟨rfl, hb⟩
    have hbw : Below w.heap.size w w1 := Below.trans (by (repeat (first | with_reducible exact Below.refl _ _ | with_reducible exact hbw | (with_reducible refine Below.setCell ?_ ?_ _; rotate_left; · first | exact Nat.le_refl _ | omega | (simp; done) | (simp; omega)) | (with_reducible refine Below.alloc ?_ ?_ _; rotate_left; · first | exact Nat.le_refl _ | omega | (simp; done) | (simp; omega)) | with_reducible refine below_drewN ?_ _ | with_reducible refine Below.drew ?_))) (hb.mono (by simp <;> omega))
    have y0 : w1.cell? ⟨w.heap.size, 0, none⟩ = some (.string x.name) := cellB hb (by simp [go_sem])
    have y1 : w1.cell? ⟨w.heap.size, 1, none⟩ = some lv := cellB hb (by simp [go_sem])
    have hz1 : w.heap.size < w1.heap.size := by have := hb.size; simp at this; omega
    clear hb
    go_wp2_with fail
    refine (l26Cost_any _ lv _ x ns 0 _ ⟨y0, y1, hlv.mono hbw, ok.1⟩ (Ints.mono hn hbw) AV.out.1 (set_in AV.out.2.1) AV.out.2.2 _ rfl).mono ?_
    rintro e w2 ⟨rfl, h2⟩
    have hbw2 := hbw.trans (h2.mono hbw.size)
    have y0 := cellB h2 y0
    have y1 := cellB h2 y1
    have HB2 := Lib.hid hbw2
    have hzz := h2.size
    clear h2 hbw hbw2
    go_wp2_with fail
    go_loopw [8, 9, 10, 11] (fun b l i _ wr => ∃ k : Nat, 1 ≤ k ∧ k ≤ 49 ∧ i = .int .i64 (k : Int) ∧ b = .int .i64 (bsTo x ns k).1 ∧ l = .int .i64 (bsTo x ns k).2 ∧ Below w2.heap.size w2 wr) (fun _ _ i _ _ => 50 - (intOf i).toNat)
    case atStart => exact ⟨1, Nat.le_refl _, by omega, by go_num, by rw [bs_one], by rw [bs_one], Below.refl _ _⟩
    case round =>
      obtain ⟨k, hk1, hk, rfl, rfl, rfl, hb⟩ := hrel
      have hbw := HB2.out.trans (hb.mono HB2.out.size)
      have y0 := cellB hb y0
      have y1 := cellB hb y1
      have hz := hb.size
      have lw : w.heap.size < wr.heap.size := by omega
      by_cases hlt : k ≤ 48
      · have dk : decide ((k : Int) ≤ 48) = true := by simp; omega
        have HW := Lib.hid hbw; clear hbw
        go_wp2_with fail
        refine (l26Order_any k _ hlt).mono ?_
        rintro e w3 ⟨rfl, hw3⟩
        subst w3
        obtain ⟨cst, hcst⟩ : ∃ cst, cst = arC x ns (shK k) := ⟨_, rfl⟩
        have HCST := Lib.hid hcst
        clear hcst
        go_wp2_with fail
        refine (l26Cost_any _ lv _ x ns (shK k) _ ⟨y0, y1, hlv.mono HW.out, ok.1⟩ (Ints.mono hn HW.out) AV.out.1 (set_in AV.out.2.1) (shK_bd hlt) cst HCST.out).mono ?_
        rintro e w4 ⟨rfl, h4⟩
        have hb4 := hb.trans (h4.mono hz)
        by_cases g : cst < (bsTo x ns k).2
        · have d1 : decide (cst < (bsTo x ns k).2) = true := by simpa using g
          have S := Lib.hid (bs_yes (x := x) (ns := ns) (k := k) (by rw [← HCST.out]; exact g))
          clear g
          go_wp2_with fail
          refine (l26Order_any k _ hlt).mono ?_
          rintro e w5 ⟨rfl, hw5⟩
          subst w5
          go_wp2
          go_roundw
          case rel => exact ⟨k + 1, by omega, by omega, by go_num, by rw [S.out], by rw [S.out, HCST.out], hb4⟩
          case measure => simp [intOf] <;> omega
        · have d1 : decide (cst < (bsTo x ns k).2) = false := by simpa using g
          have S := Lib.hid (bs_no (x := x) (ns := ns) (k := k) (by rw [← HCST.out]; exact g))
          clear g
          go_wp2
          go_roundw
          case rel => exact ⟨k + 1, by omega, by omega, by go_num, by rw [S.out], by rw [S.out], hb4⟩
          case measure => simp [intOf] <;> omega
      · obtain rfl : k = 49 := by omega
        go_wp2
        go_ret3
        exact ⟨by rw [E.out.1, E.out.2, A0.out]; rfl, hbw⟩
  · have E := Lib.hid (show bsN x ns = 0 ∧ bsL x ns = 0 by unfold bsN bsL; rw [if_neg ga, if_neg ga]; exact ⟨rfl, rfl⟩)
    have d0 : (askC x ns 0 != 0) = true := by simpa using ga
    clear ga
    go_enter Try.func20, Try.ntmps20
    go_wp2_with fail
    refine (l26Ask_any _ lv _ x ns 0 _ ⟨by simp [go_sem], by simp [go_sem], hlv.mono (by (repeat (first | with_reducible exact Below.refl _ _ | with_reducible exact hbw | (with_reducible refine Below.setCell ?_ ?_ _; rotate_left; · first | exact Nat.le_refl _ | omega | (simp; done) | (simp; omega)) | (with_reducible refine Below.alloc ?_ ?_ _; rotate_left; · first | exact Nat.le_refl _ | omega | (simp; done) | (simp; omega)) | with_reducible refine below_drewN ?_ _ | with_reducible refine Below.drew ?_))), ok.1⟩ (Ints.mono hn (by (repeat (first | with_reducible exact Below.refl _ _ | with_reducible exact hbw | (with_reducible refine Below.setCell ?_ ?_ _; rotate_left; · first | exact Nat.le_refl _ | omega | (simp; done) | (simp; omega)) | (with_reducible refine Below.alloc ?_ ?_ _; rotate_left; · first | exact Nat.le_refl _ | omega | (simp; done) | (simp; omega)) | with_reducible refine below_drewN ?_ _ | with_reducible refine Below.drew ?_))))).mono ?_
    rintro e w1 ⟨rfl, hb⟩
    have hbw : Below w.heap.size w w1 := Below.trans (by (repeat (first | with_reducible exact Below.refl _ _ | with_reducible exact hbw | (with_reducible refine Below.setCell ?_ ?_ _; rotate_left; · first | exact Nat.le_refl _ | omega | (simp; done) | (simp; omega)) | (with_reducible refine Below.alloc ?_ ?_ _; rotate_left; · first | exact Nat.le_refl _ | omega | (simp; done) | (simp; omega)) | with_reducible refine below_drewN ?_ _ | with_reducible refine Below.drew ?_))) (hb.mono (by simp <;> omega))
    have y0 : w1.cell? ⟨w.heap.size, 0, none⟩ = some (.string x.name) := cellB hb (by simp [go_sem])
    have y1 : w1.cell? ⟨w.heap.size, 1, none⟩ = some lv := cellB hb (by simp [go_sem])
    have hz1 : w.heap.size < w1.heap.size := by have := hb.size; simp at this; omega
    clear hb
    go_wp2
    go_ret3
    exact ⟨by rw [E.out.1, E.out.2]; rfl, hbw⟩

set_option maxHeartbeats 2000000 in
theorem implBestShift_any (v : Value) (x : TunD) (v2 : Value) (ns : List Int) (w : World) (h : RdTun w v x) (ok : x.ok) (_ : x.tones.length ≤ 1048576) (hn : RdInts w v2 ns) (_ : ∀ x ∈ ns, I64 x) (_ : ns.length ≤ 1048576) :
    Calls Try.prog 21 #[v, v2] w fun e w' => e = .returned (.tuple #[.int .i64 (bsN x ns), .int .i64 (bsL x ns), .int .i64 (askC x ns 0)]) ∧ Below w.heap.size w w' := by
  obtain ⟨lv, rfl, hlv⟩ := h
  have hn : Ints w v2 ns := hn
  obtain ⟨a1, cs1, rfl, _, _, _⟩ := id hn
  by_cases ga : askC x ns 0 = 0
  · have AV := Lib.hid (ask_zero.1 ga)
    have E := Lib.hid (show bsN x ns = (bsTo x ns 49).1 ∧ bsL x ns = (bsTo x ns 49).2 by unfold bsN bsL; rw [if_pos ga, if_pos ga]; exact ⟨rfl, rfl⟩)
    have d0 : (askC x ns 0 != 0) = false := by simpa using ga
    have A0 := Lib.hid ga; clear ga
    go_enter Try.func21, Try.ntmps21
    go_wp2_with fail
    refine (arranged_any _ lv _ x ns 0 _ ⟨rfl, hlv.mono (by (repeat (first | with_reducible exact Below.refl _ _ | with_reducible exact hbw | (with_reducible refine Below.setCell ?_ ?_ _; rotate_left; · first | exact Nat.le_refl _ | omega | (simp; done) | (simp; omega)) | (with_reducible refine Below.alloc ?_ ?_ _; rotate_left; · first | exact Nat.le_refl _ | omega | (simp; done) | (simp; omega)) | with_reducible refine below_drewN ?_ _ | with_reducible refine Below.drew ?_)))⟩ ok.1 (Ints.mono hn (by (repeat (first | with_reducible exact Below.refl _ _ | with_reducible exact hbw | (with_reducible refine Below.setCell ?_ ?_ _; rotate_left; · first | exact Nat.le_refl _ | omega | (simp; done) | (simp; omega)) | (with_reducible refine Below.alloc ?_ ?_ _; rotate_left; · first | exact Nat.le_refl _ | omega | (simp; done) | (simp; omega)) | with_reducible refine below_drewN ?_ _ | with_reducible refine Below.drew ?_))))).mono ?_
    rintro e w1 ⟨rfl, hb⟩
    have hbw : Below w.heap.size w w1 := Below.trans (by (repeat (first | with_reducible exact Below.refl _ _ | with_reducible exact hbw | (with_reducible refine Below.setCell ?_ ?_ _; rotate_left; · first | exact Nat.le_refl _ | omega | (simp; done) | (simp; omega)) | (with_reducible refine Below.alloc ?_ ?_ _; rotate_left; · first | exact Nat.le_refl _ | omega | (simp; done) | (simp; omega)) | with_reducible refine below_drewN ?_ _ | with_reducible refine Below.drew ?_))) (hb.mono (by simp <;> omega))
    have y0 : w1.cell? ⟨w.heap.size, 0, none⟩ = some (.string x.name) := cellB hb (by simp [go_sem])
    have y1 : w1.cell? ⟨w.heap.size, 1, none⟩ = some lv := cellB hb (by simp [go_sem])
    have hz1 : w.heap.size < w1.heap.size := by have := hb.size; simp at this; omega
    clear hb
    go_wp2_with fail
    refine (arrangeCost_any _ lv _ x ns 0 _ ⟨rfl, hlv.mono hbw⟩ (Ints.mono hn hbw) AV.out.1 (set_in AV.out.2.1) AV.out.2.2 ok.1 _ rfl).mono ?_
    rintro e w2 ⟨rfl, h2⟩
    have hbw2 := hbw.trans (h2.mono hbw.size)
    have y0 := cellB h2 y0
    have y1 := cellB h2 y1
    have HB2 := Lib.hid hbw2
    have hzz := h2.size
    clear h2 hbw hbw2
    go_wp2_with fail
    refine (shifts_any _).mono ?_
    rintro e w3 ⟨vL, rfl, hoL, hbL⟩
    have HB3 := Lib.hid (HB2.out.trans (hbL.mono HB2.out.size))
    have hL : Sl w3 vL 49 ((shL 49).map (Value.int .i64)) := Sl.of_owns hoL
    obtain ⟨b9, c9, rfl, _, _, _⟩ := id hL
    have y0 := cellB hbL y0
    have y1 := cellB hbL y1
    have hzL := hbL.size
    clear hoL hbL
    go_wp2_with fail
    go_loopw [8, 9, 24, 11, 12] (fun b l i _ _ wr => ∃ k : Nat, k ≤ 49 ∧ i = .int .i64 (k : Int) ∧ b = .int .i64 (bsTo x ns k).1 ∧ l = .int .i64 (bsTo x ns k).2 ∧ Below w3.heap.size w3 wr) (fun _ _ i _ _ _ => 49 - (intOf i).toNat)
    case atStart => exact ⟨0, by omega, by go_num, rfl, rfl, Below.refl _ _⟩
    case round =>
      obtain ⟨k, hk, rfl, rfl, rfl, hb⟩ := hrel
      have hbw := HB3.out.trans (hb.mono HB3.out.size)
      have y0 := cellB hb y0
      have y1 := cellB hb y1
      have hz := hb.size
      have lw : w.heap.size < wr.heap.size := by omega
      by_cases hlt : k ≤ 48
      · have dk : decide ((k : Int) < 49) = true := by simp; omega
        have HW := Lib.hid hbw; clear hbw
        obtain ⟨p, o, rfl, c9⟩ := (hL.mono hb).cells (by simp [shL_len])
        have hp : wr.cell? ⟨p, o + k, none⟩ = some (.int .i64 (shK k)) := c9 k _ (by rw [List.getElem?_map, List.getElem?_eq_getElem (by rw [shL_len]; omega), shL_get]; rfl)
        have lp := World.block_lt_of_cell? _ _ hp
        simp only at lp
        obtain ⟨cst, hcst⟩ : ∃ cst, cst = arC x ns (shK k) := ⟨_, rfl⟩
        have HCST := Lib.hid hcst
        clear hcst c9
        by_cases g : cst < (bsTo x ns k).2
        · have d1 : decide (cst < (bsTo x ns k).2) = true := by simpa using g
          have S := Lib.hid (bs_yes (x := x) (ns := ns) (k := k) (by rw [← HCST.out]; exact g))
          clear g
          go_wp2_with fail
          refine (arrangeCost_any _ lv _ x ns (shK k) _ ⟨rfl, hlv.mono HW.out⟩ (Ints.mono hn HW.out) AV.out.1 (set_in AV.out.2.1) (shK_bd hlt) ok.1 cst HCST.out).mono ?_
          rintro e w4 ⟨rfl, h4⟩
          have hb4 := hb.trans (h4.mono hz)
          go_wp2
          go_roundw
          case rel => exact ⟨k + 1, by omega, by go_num, by rw [S.out], by rw [S.out, HCST.out], hb4⟩
          case measure => simp [intOf] <;> omega
        · have d1 : decide (cst < (bsTo x ns k).2) = false := by simpa using g
          have S := Lib.hid (bs_no (x := x) (ns := ns) (k := k) (by rw [← HCST.out]; exact g))
          clear g
          go_wp2_with fail
          refine (arrangeCost_any _ lv _ x ns (shK k) _ ⟨rfl, hlv.mono HW.out⟩ (Ints.mono hn HW.out) AV.out.1 (set_in AV.out.2.1) (shK_bd hlt) ok.1 cst HCST.out).mono ?_
          rintro e w4 ⟨rfl, h4⟩
          have hb4 := hb.trans (h4.mono hz)
          go_wp2
          go_roundw
          case rel => exact ⟨k + 1, by omega, by go_num, by rw [S.out], by rw [S.out], hb4⟩
          case measure => simp [intOf] <;> omega
      · obtain rfl : k = 49 := by omega
        go_wp2
        go_ret3
        exact ⟨by rw [E.out.1, E.out.2, A0.out]; rfl, hbw⟩
  · have E := Lib.hid (show bsN x ns = 0 ∧ bsL x ns = 0 by unfold bsN bsL; rw [if_neg ga, if_neg ga]; exact ⟨rfl, rfl⟩)
    have d0 : (askC x ns 0 != 0) = true := by simpa using ga
    clear ga
    go_enter Try.func21, Try.ntmps21
    go_wp2_with fail
    refine (arranged_any _ lv _ x ns 0 _ ⟨rfl, hlv.mono (by (repeat (first | with_reducible exact Below.refl _ _ | with_reducible exact hbw | (with_reducible refine Below.setCell ?_ ?_ _; rotate_left; · first | exact Nat.le_refl _ | omega | (simp; done) | (simp; omega)) | (with_reducible refine Below.alloc ?_ ?_ _; rotate_left; · first | exact Nat.le_refl _ | omega | (simp; done) | (simp; omega)) | with_reducible refine below_drewN ?_ _ | with_reducible refine Below.drew ?_)))⟩ ok.1 (Ints.mono hn (by (repeat (first | with_reducible exact Below.refl _ _ | with_reducible exact hbw | (with_reducible refine Below.setCell ?_ ?_ _; rotate_left; · first | exact Nat.le_refl _ | omega | (simp; done) | (simp; omega)) | (with_reducible refine Below.alloc ?_ ?_ _; rotate_left; · first | exact Nat.le_refl _ | omega | (simp; done) | (simp; omega)) | with_reducible refine below_drewN ?_ _ | with_reducible refine Below.drew ?_))))).mono ?_
    rintro e w1 ⟨rfl, hb⟩
    have hbw : Below w.heap.size w w1 := Below.trans (by (repeat (first | with_reducible exact Below.refl _ _ | with_reducible exact hbw | (with_reducible refine Below.setCell ?_ ?_ _; rotate_left; · first | exact Nat.le_refl _ | omega | (simp; done) | (simp; omega)) | (with_reducible refine Below.alloc ?_ ?_ _; rotate_left; · first | exact Nat.le_refl _ | omega | (simp; done) | (simp; omega)) | with_reducible refine below_drewN ?_ _ | with_reducible refine Below.drew ?_))) (hb.mono (by simp <;> omega))
    have y0 : w1.cell? ⟨w.heap.size, 0, none⟩ = some (.string x.name) := cellB hb (by simp [go_sem])
    have y1 : w1.cell? ⟨w.heap.size, 1, none⟩ = some lv := cellB hb (by simp [go_sem])
    have hz1 : w.heap.size < w1.heap.size := by have := hb.size; simp at this; omega
    clear hb
    go_wp2
    go_ret3
    exact ⟨by rw [E.out.1, E.out.2]; rfl, hbw⟩

end Go.Proofs.Ytemmnjokojgjaaa
