import Derived.WalkKit
import Derived.WalkSpells
import Derived.WalkLawsBesides
import Derived.Lib.Hide
import Derived.Test.YtenedpboehkmjaaGreatRows
import Derived.ProofKit
import Derived.OpenShut
import Derived.Deep.Slices
import Derived.Deep.Strs
import Derived.Lib.SmallJoins
import Derived.OrdersHeld
import Derived.Still
import Derived.Deep.RegionHeld3
import Derived.Test.YtenedpboehkmjaaGreatChecked
/-
  Memory words of our own: a slice value that reads as a list of cells; how that is kept from world to world. No program in sight.
-/
set_option linter.unusedSimpArgs false
set_option linter.unnecessarySimpa false
set_option linter.unusedVariables false
namespace Go.Proofs.YtenedpboehkmjaaGreat
open Go.RowKit

/-- v is a slice of n elements; its first cells are cs. -/
def Sl (w : World) (v : Value) (n : Nat) (cs : List Value) : Prop :=
  ∃ a cap, v = .slice a n cap ∧ n ≤ cap ∧ cap ≤ maxLen ∧ ∀ j u, cs[j]? = some u → ∃ b off, a = some ⟨b, off, none⟩ ∧ w.cell? ⟨b, off + j, none⟩ = some u

/-- v reads as the numbers zs. -/
def Ints (w : World) (v : Value) (zs : List Int) : Prop := Sl w v zs.length (zs.map (Value.int .i64))

theorem Sl.mono {w w' : World} {v : Value} {n : Nat} {cs : List Value} (h : Sl w v n cs) (hb : Below w.heap.size w w') : Sl w' v n cs := by
  obtain ⟨a, cap, rfl, h1, h2, h3⟩ := h
  refine ⟨a, cap, rfl, h1, h2, fun j u hu => ?_⟩
  obtain ⟨b, off, rfl, hc⟩ := h3 j u hu
  exact ⟨b, off, rfl, (hb.cell (p := ⟨b, off + j, none⟩) (World.block_lt_of_cell? w _ hc)).trans hc⟩

theorem Ints.mono {w w' : World} {v : Value} {zs : List Int} (h : Ints w v zs) (hb : Below w.heap.size w w') : Ints w' v zs := Sl.mono h hb

theorem Sl.cells {w : World} {a : Option Addr} {n cap : Nat} {cs : List Value} (h : Sl w (.slice a n cap) n cs) (hn : 0 < cs.length) :
    ∃ b off, a = some ⟨b, off, none⟩ ∧ ∀ j u, cs[j]? = some u → w.cell? ⟨b, off + j, none⟩ = some u := by
  obtain ⟨a', cap', e, _, _, h3⟩ := h
  cases e
  obtain ⟨b, off, rfl, _⟩ := h3 0 cs[0] (by simp [hn])
  refine ⟨b, off, rfl, fun j u hu => ?_⟩
  obtain ⟨b', off', e, hc⟩ := h3 j u hu
  cases e
  exact hc

theorem Sl.of_owns {w : World} {base : Nat} {e : TypeId} {size n : Nat} {v : Value} {cs : List Value} (h : w.ownsRow base e size v n cs) : Sl w v n cs := by
  obtain ⟨hl, ⟨rfl, rfl⟩ | ⟨g, cap, cur, rfl, _, hg, hn, hc, hs, ht⟩⟩ := h
  · refine ⟨none, 0, rfl, Nat.le_refl _, by simp [maxLen], fun j u hu => ?_⟩
    simp at hl; subst hl; simp at hu
  · refine ⟨_, _, rfl, hn, hc, fun j u hu => ⟨g, 0, rfl, ?_⟩⟩
    rw [Nat.zero_add, cell_of_row w g j cur e (0, 0) hg, ← hu, ← ht, List.getElem?_take]
    have := (List.getElem?_eq_some_iff.1 hu).1
    rw [if_pos (by omega)]; simp

theorem Ints.of_owns {w : World} {base : Nat} {e : TypeId} {v : Value} {zs : List Int} (h : w.ownsRow base e 1 v zs.length (zs.map (Value.int .i64))) : Ints w v zs := Sl.of_owns h

/-- Owned from 'base' on: kept in every later world of 'Below' at that world's size. -/
theorem owns_mono {w w' : World} {base : Nat} {e : TypeId} {size n : Nat} {v : Value} {cs : List Value} (h : w.ownsRow base e size v n cs) (hb : Below w.heap.size w w') : w'.ownsRow base e size v n cs := by
  refine ⟨h.1, ?_⟩
  rcases h.2 with h2 | ⟨g, cap, cur, a, b, c, d⟩
  · exact .inl h2
  · exact .inr ⟨g, cap, cur, a, b, (hb.block g (Array.getElem?_eq_some_iff.1 c).1).trans c, d⟩

theorem owns_base {w : World} {base base' : Nat} {e : TypeId} {size n : Nat} {v : Value} {cs : List Value} (h : w.ownsRow base e size v n cs) (hb : base' ≤ base) : w.ownsRow base' e size v n cs := by
  refine ⟨h.1, ?_⟩
  rcases h.2 with h2 | ⟨g, cap, cur, a, b, c⟩
  · exact .inl h2
  · exact .inr ⟨g, cap, cur, a, by omega, c⟩

/-- w' is w after some draws of the tape: memory is as it was. -/
def Q (w w' : World) : Prop := ∃ n, w' = w.drewN n
theorem Q.refl (w : World) : Q w w := ⟨0, rfl⟩
theorem Q.drewN {w w' : World} (h : Q w w') (n : Nat) : Q w (w'.drewN n) := by obtain ⟨m, rfl⟩ := h; exact ⟨m + n, World.drewN_drewN ..⟩
theorem Q.drew {w w' : World} (h : Q w w') : Q w w'.drew := by obtain ⟨m, rfl⟩ := h; exact ⟨m + 1, rfl⟩
theorem Q.trans {a b c : World} (h : Q a b) (k : Q b c) : Q a c := by obtain ⟨m, rfl⟩ := h; obtain ⟨n, rfl⟩ := k; exact ⟨m + n, World.drewN_drewN ..⟩
theorem Q.below {w w' : World} (h : Q w w') (B : Nat) : Below B w w' := by obtain ⟨m, rfl⟩ := h; exact below_drewN (Below.refl _ _) m
theorem Q.cell {w w' : World} (h : Q w w') (p : Addr) : w'.cell? p = w.cell? p := by obtain ⟨m, rfl⟩ := h; rfl
theorem Q.heap {w w' : World} (h : Q w w') : w'.heap = w.heap := by obtain ⟨m, rfl⟩ := h; rfl
theorem quiet_q {P : Program} {f : FuncId} {args : Array Value} {w : World} {n : Nat} {v : Value}
    (h : Calls P f args (w.drewN n) fun e w' => e = .returned v ∧ Q (w.drewN n) w') : Calls P f args (w.drewN n) fun e w'' => e = .returned v ∧ ∃ m, w'' = w.drewN m :=
  h.mono fun _ _ ⟨he, m, hm⟩ => ⟨he, n + m, by rw [hm, World.drewN_drewN]⟩
theorem Ints.q {w w' : World} {v : Value} {zs : List Int} (h : Ints w v zs) (hq : Q w w') : Ints w' v zs := h.mono (hq.below _)

theorem Below.drawN {w : World} (n : Nat) : Below w.heap.size w (w.drewN n) := below_drewN (Below.refl _ _) n

theorem flat_len {α : Type} {f : α → List Value} {m : Nat} (hf : ∀ x, (f x).length = m) : ∀ (xs : List α), (xs.flatMap f).length = xs.length * m
  | [] => by simp
  | x :: xs => by rw [List.flatMap_cons, List.length_append, hf, flat_len hf xs, List.length_cons, Nat.succ_mul]; omega

theorem flat_at {α : Type} {f : α → List Value} {m : Nat} (hf : ∀ x, (f x).length = m) : ∀ (xs : List α) (k j : Nat) (hk : k < xs.length) (hj : j < m) {u : Value}, (f xs[k])[j]? = some u → (xs.flatMap f)[k * m + j]? = some u
  | x :: xs, 0, j, hk, hj, u, h => by
    rw [List.flatMap_cons, List.getElem?_append_left (by rw [hf]; omega), Nat.zero_mul, Nat.zero_add]
    exact h
  | x :: xs, k + 1, j, hk, hj, u, h => by
    rw [List.flatMap_cons, List.getElem?_append_right (by rw [hf, Nat.succ_mul]; omega), hf, show (k + 1) * m + j - m = k * m + j by rw [Nat.succ_mul]; omega]
    exact flat_at hf xs k j (by simpa using hk) hj (by simpa using h)

theorem set_at (A : List Value) (z a : Value) (R : List Value) : (A ++ z :: R).set A.length a = A ++ a :: R := by
  rw [List.set_append_right _ _ (Nat.le_refl _), Nat.sub_self, List.set_cons_zero]
theorem set_at' {A : List Value} {z a : Value} {R : List Value} {j : Nat} (h : A.length = j) : (A ++ z :: R).set j a = A ++ a :: R := by rw [← h, set_at]

theorem grown_trans {a b c : World} {row : Option Nat} (h : a.grownBy b row) (k : b.grownBy c row) : a.grownBy c row :=
  ⟨k.os.trans h.os, k.tape.trans h.tape, k.output.trans h.output, Nat.le_trans h.size k.size, fun i hi hr => (k.block i (Nat.lt_of_lt_of_le hi h.size) hr).trans (h.block i hi hr)⟩

theorem stored1 {w : World} {base : Nat} {e : TypeId} {size g n cap : Nat} {A R : List Value} {z : Value} {j : Nat} (h : w.ownsRow base e size (.slice (some ⟨g, 0, none⟩) n cap) n (A ++ z :: R)) (hA : A.length = j) (a : Value) :
    (w.setCell ⟨g, j, none⟩ a).ownsRow base e size (.slice (some ⟨g, 0, none⟩) n cap) n (A ++ a :: R) ∧ w.grownBy (w.setCell ⟨g, j, none⟩ a) (some g) := by
  have := h.stored j a
  rwa [set_at' hA] at this

theorem stored2 {w : World} {base : Nat} {e : TypeId} {size g n cap : Nat} {A R : List Value} {z0 z1 : Value} {j : Nat} (h : w.ownsRow base e size (.slice (some ⟨g, 0, none⟩) n cap) n (A ++ z0 :: z1 :: R)) (hA : A.length = j) (a b : Value) :
    ((w.setCell ⟨g, j, none⟩ a).setCell ⟨g, j + 1, none⟩ b).ownsRow base e size (.slice (some ⟨g, 0, none⟩) n cap) n (A ++ a :: b :: R) ∧ w.grownBy ((w.setCell ⟨g, j, none⟩ a).setCell ⟨g, j + 1, none⟩ b) (some g) := by
  have h1 := stored1 h hA a
  have h2 := stored1 (A := A ++ [a]) (z := z1) (R := R) (j := j + 1) (by simpa using h1.1) (by simp [hA]) b
  exact ⟨by simpa using h2.1, grown_trans h1.2 h2.2⟩

theorem stored3 {w : World} {base : Nat} {e : TypeId} {size g n cap : Nat} {A R : List Value} {z0 z1 z2 : Value} {j : Nat} (h : w.ownsRow base e size (.slice (some ⟨g, 0, none⟩) n cap) n (A ++ z0 :: z1 :: z2 :: R)) (hA : A.length = j) (a b c : Value) :
    (((w.setCell ⟨g, j, none⟩ a).setCell ⟨g, j + 1, none⟩ b).setCell ⟨g, j + 2, none⟩ c).ownsRow base e size (.slice (some ⟨g, 0, none⟩) n cap) n (A ++ a :: b :: c :: R) ∧ w.grownBy (((w.setCell ⟨g, j, none⟩ a).setCell ⟨g, j + 1, none⟩ b).setCell ⟨g, j + 2, none⟩ c) (some g) := by
  have h1 := stored2 h hA a b
  have h2 := stored1 (A := A ++ [a, b]) (z := z2) (R := R) (j := j + 2) (by simpa using h1.1) (by simp [hA]) c
  exact ⟨by simpa using h2.1, grown_trans h1.2 h2.2⟩

theorem toList_madeCells (z : Array Value) (n m : Nat) (x : Value) (hz : z = Array.replicate (m + 1) x) : (madeCells z n).toList = List.replicate n x := by
  subst hz
  apply List.ext_getElem?
  intro j
  by_cases hj : j < n
  · simp [madeCells, hj, Nat.mod_lt]
  · simp [madeCells, hj]
theorem made_rep2 (n : Nat) : (madeCells #[.int .i64 0, .int .i64 0] n).toList = List.replicate n (.int .i64 0) := toList_madeCells _ n 1 _ rfl
theorem made_rep3 (n : Nat) : (madeCells #[.int .i64 0, .int .i64 0, .int .i64 0] n).toList = List.replicate n (.int .i64 0) := toList_madeCells _ n 2 _ rfl

/-- The numbers k, k + 1 .., n of them. -/
def marks (k n : Nat) : List Value := (List.range n).map fun i => .int .i64 ↑(k + i)
theorem marks_len (k n : Nat) : (marks k n).length = n := by simp [marks]
theorem marks_get (k n i : Nat) (h : i < n) : (marks k n)[i]? = some (.int .i64 ↑(k + i)) := by simp [marks, h]
theorem marks_succ (k n : Nat) : marks k (n + 1) = marks k n ++ [.int .i64 ↑(k + n)] := by simp [marks, List.range_succ]
theorem marks_at (k n : Nat) (cs : List Value) (j : Nat) (h : n + j < cs.length) : (marks k n ++ cs.drop n)[n + j]? = some (cs.getD (n + j) .nilFunc) := by
  rw [List.getElem?_append_right (by rw [marks_len]; omega), marks_len, List.getElem?_drop, show n + (n + j - n) = n + j by omega]
  simp [List.getD, h]
theorem marks_set (k n : Nat) (cs : List Value) (h : n < cs.length) : (marks k n ++ cs.drop n).set n (.int .i64 ↑(k + n)) = marks k (n + 1) ++ cs.drop (n + 1) := by
  rw [List.drop_eq_getElem_cons h, set_at' (marks_len k n), marks_succ]; simp

theorem bcell {W w1 : World} (hb : Below W.heap.size W w1) : (∀ b o, b < W.heap.size → w1.cell? ⟨b, o, none⟩ = W.cell? ⟨b, o, none⟩) ∧ (∀ b o, b < W.heap.size → w1.frozen? ⟨b, o, none⟩ = W.frozen? ⟨b, o, none⟩) :=
  ⟨fun b o h => hb.cell (p := ⟨b, o, none⟩) h, fun b o h => hb.frozen (p := ⟨b, o, none⟩) h⟩
theorem undrew {B : Nat} {w w' : World} (h : Below B w.drew w') : Below B w w' := ⟨h.os, h.tape, h.output, h.size, h.block⟩
theorem grown_of_below {w w' : World} (h : Below w.heap.size w w') : w.grownBy w' none := ⟨h.os, h.tape, h.output, h.size, fun k hk _ => h.block k hk⟩
theorem below_of_grown {w w' : World} (h : w.grownBy w' none) : Below w.heap.size w w' := ⟨h.os, h.tape, h.output, h.size, fun k hk => h.block k hk (by simp)⟩

theorem ret_bool {a b : Bool} (h : a = b) : Ending.returned (.bool a) = .returned (.bool b) := by rw [h]
theorem ret_int {k : IntKind} {a b : Int} (h : a = b) : Ending.returned (.int k a) = .returned (.int k b) := by rw [h]

theorem ne_of_get {α} [BEq α] [LawfulBEq α] {xs ys : List α} {k : Nat} (h1 : k < xs.length) (h2 : k < ys.length) (h : (xs[k] != ys[k]) = true) : ¬ xs = ys := by
  rintro rfl; simp at h
theorem take_step {α} [BEq α] [LawfulBEq α] {xs ys : List α} {k : Nat} (h1 : k < xs.length) (h2 : k < ys.length) (ht : xs.take k = ys.take k) (h : (xs[k] != ys[k]) = false) : xs.take (k + 1) = ys.take (k + 1) := by
  have : xs[k] = ys[k] := by simpa using h
  rw [List.take_succ_eq_append_getElem h1, List.take_succ_eq_append_getElem h2, ht, this]
theorem eq_of_take {α} {xs ys : List α} {k : Nat} (hl : xs.length = ys.length) (h : ¬ k < xs.length) (ht : xs.take k = ys.take k) : xs = ys := by
  rwa [List.take_of_length_le (by omega), List.take_of_length_le (by omega)] at ht

theorem owns_slice {w : World} {base : Nat} {e : TypeId} {size n : Nat} {v : Value} {cs : List Value} (h : w.ownsRow base e size v n cs) : ∃ a cap, v = .slice a n cap := by
  rcases h.2 with ⟨rfl, rfl⟩ | ⟨g, cap, cur, rfl, _⟩
  · exact ⟨_, _, rfl⟩
  · exact ⟨_, _, rfl⟩

def I64 (n : Int) : Prop := (Lit.int .i64 n).wf = true
theorem I64.bd {n : Int} (h : I64 n) : -9223372036854775808 ≤ n ∧ n ≤ 9223372036854775807 := by simpa [I64, Lit.wf, IntKind.min, IntKind.max, IntKind.signed, IntKind.bits] using h

/-- 'out = append(out, x)', out owned, x laid just ahead: the walk's law. -/
theorem append_one {P : Program} {w : World} {ops : Array Oper} {rest : List Oper} {o : Oper} {a : Act} {Q : Exit → Act → World → Prop} (hgd : o.guard = none) (s x : Operand) (t : TypeId)
    (ho : o.op = .call { callee := .builtin .append, args := #[s, x], argTypes := #[t, t] })
    (base : Nat) (e : TypeId) (z : Value) (size bytes : Nat) (ht : P.underlying t = some (.slice e)) (hi : (P.info? e).map (fun i => (i.zero, i.size, i.bytes)) = some (some z, size, bytes)) (hzs : z.cells.size = size) (hsz : 0 < size)
    (v : Value) (n : Nat) (xs : List Value) (hs : a.eval s = v) (hown : w.ownsRow base e size v n xs) (news : List Value) (hl : news.length = size) (h1 : ∀ u ∈ news, u.oneCell' = true)
    (hx : a.eval x = .slice (some ⟨w.heap.size, 0, none⟩) 1 1) (hn : n ≤ 1000000000) (hbytes : bytes ≤ 1000) (hbase : base ≤ w.heap.size)
    (h : ∀ a' cap' w', w'.ownsRow base e size (.slice a' (n + 1) cap') (n + 1) (xs ++ news) → w.grownBy w' v.ownBlock → Below base w w' → wpList P ops Q rest (Act.put a o.dst (.slice a' (n + 1) cap')) w') :
    wpList P ops Q (o :: rest) a (w.alloc (.cells news.toArray e)) := by
  obtain ⟨i0, hi, hz0, hz1, hz2⟩ := info_parts hi
  have hb2 : (n + 1) * bytes ≤ 140737488355328 := Nat.le_trans (Nat.mul_le_mul (show n + 1 ≤ 1000000001 by omega) hbytes) (by omega)
  refine wpList_append_own _ hgd s x t ho base e i0 z size bytes ht hi hz0 hz1 hz2 hzs hsz v n xs hs (hown.alloc _) ⟨w.heap.size, 0, none⟩ 1 1 news hx (by omega) (fun j u hu => ?_) h1 (by unfold maxLen; omega) hb2 (by simp; omega) (fun v' w' ho' hg' _ => ?_)
  · rw [Addr.add_lit, Nat.zero_add, cell_of_row _ w.heap.size j news.toArray e (0, 0) (heap_alloc_new w _)]
    simpa using hu
  · obtain ⟨a', cap', rfl⟩ : ∃ a' cap', v' = .slice a' (n + 1) cap' := by
      rcases ho'.2 with ⟨rfl, h0⟩ | ⟨g, cap, cur, rfl, _⟩
      · omega
      · exact ⟨_, _, rfl⟩
    have hg2 : w.grownBy w' v.ownBlock := grown_trans (World.grownBy_alloc _ _ _) hg'
    exact h a' cap' w' ho' hg2 ((Below.refl base w).grown hg2 hbase (fun k hk => (hown.lt k hk).1))

/-- Two rows of which the second was made when the first was there: two blocks. -/
theorem owns_apart {w1 w2 : World} {b1 b2 : Nat} {e1 e2 : TypeId} {s1 s2 n1 n2 : Nat} {v1 v2 : Value} {c1 c2 : List Value} (h1 : w1.ownsRow b1 e1 s1 v1 n1 c1) (h2 : w2.ownsRow b2 e2 s2 v2 n2 c2) (hb : w1.heap.size ≤ b2) :
    v1.ownBlock = none ∨ v1.ownBlock ≠ v2.ownBlock := by
  cases hv : v1.ownBlock with
  | none => exact .inl rfl
  | some k =>
    refine .inr fun e => ?_
    have := (h1.lt k hv).2
    have := (h2.lt k e.symm).1
    omega

theorem owns_below_base {w w' : World} {b : Nat} {e : TypeId} {s n : Nat} {v : Value} {cs : List Value} {B : Nat} {W : World} (hb : Below B W w) (h : w.ownsRow b e s v n cs) (hg : w.grownBy w' v.ownBlock) (hB : B ≤ b) (hW : B ≤ w.heap.size) : Below B W w' :=
  hb.grown hg hW (fun k hk => Nat.le_trans hB (h.lt k hk).1)

theorem noB {p : Prop} [Decidable p] (h : ¬ p) : false = decide p := (decide_eq_false h).symm
theorem yesB {p : Prop} [Decidable p] (h : p) : true = decide p := (decide_eq_true h).symm

theorem lt_step {p : Nat → Prop} {k : Nat} (h : ∀ i, i < k → p i) (hp : p k) : ∀ i, i < k + 1 → p i := fun i hi => by
  by_cases e : i = k
  · rw [e]; exact hp
  · exact h i (by omega)

end Go.Proofs.YtenedpboehkmjaaGreat
/- What every law's frame shares: how arguments are opened, and read on in later worlds. -/
set_option linter.unusedSimpArgs false
set_option linter.unnecessarySimpa false
set_option linter.unusedVariables false
namespace Go.Proofs.YtenedpboehkmjaaGreat
open Go.ChangeShapes Go.WideShapes Go.ChangeAt Go.RowKit

theorem own : ownKnob Tryz.prog.godebug = none := by kernel_rfl
theorem laidOut : laidOutB Tryz.prog = true := by kernel_rfl
theorem cells_int : Tryz.prog.cellsOf 2 = 1 := by kernel_rfl

/-- Arguments that were read read on in every later world. -/
theorem trodAll_below {H : Type} {enc : TypeId × Value → H} {W W' : World} (hb : Below W.heap.size W W') :
    ∀ (ts : List TypeId) (vs : List Value) (ds : List (DataW H)) (p : List MemPlace), (∀ t ∈ ts, Tryz.prog.readableRec t = true ∧ t < Tryz.prog.types.size) →
      DataW.TrodAll enc Tryz.prog W 0 (fun _ => true) true ts vs ds p → (∀ x ∈ p, x.block < W.heap.size) → DataW.TrodAll enc Tryz.prog W' 0 (fun b => decide (b < W.heap.size)) true ts vs ds p
  | [], [], [], p, _, h, _ => h
  | t :: ts, v :: vs, d :: ds, p, ht, h, hp => by
    obtain ⟨p1, q1, h1, h2, rfl⟩ := h
    exact ⟨p1, q1, Below.trod laidOut (ht t (by simp)).1 (ht t (by simp)).2 h1 hb (fun x hx => hp x (by simp [hx])), trodAll_below hb ts vs ds q1 (fun t h => ht t (by simp [h])) h2 (fun x hx => hp x (by simp [hx])), rfl⟩
  | [], [], _ :: _, _, _, h, _ => h.elim
  | [], _ :: _, _, _, _, h, _ => h.elim
  | _ :: _, [], _, _, _, h, _ => h.elim
  | _ :: _, _ :: _, [], _, _, h, _ => h.elim

section
variable {H : Type} {enc : TypeId × Value → H} {W : World} {base : Nat}

set_option maxRecDepth 100000 in
/-- An argument of type []int64. -/
theorem open_arg_ints {v : Value} {d : DataW H} {p : List MemPlace} (hv : Value.okWide Tryz.prog W .any base 22 v) (h : DataW.Trod enc Tryz.prog W 0 (fun _ => true) true 22 v d p) :
    ∃ xs, Ints W v xs ∧ ∀ x ∈ xs, (Lit.int .i64 x).wf = true := by
  obtain ⟨a0, len, cap, rfl⟩ := okWide_slice Tryz.underlying22 hv
  obtain ⟨fuel, hf⟩ := h
  rcases open_ints Tryz.underlying22 Tryz.underlying2 cells_int hf with ⟨hcs, hx⟩ | ⟨a, len', cap', zs, hcs, _, hl, hm, hz, hx, hcell, hwz⟩
  · simp [Value.cells] at hcs
    obtain ⟨rfl, rfl, rfl⟩ := hcs
    exact ⟨[], ⟨none, 0, rfl, Nat.le_refl _, by simp [maxLen], fun j u hu => by simp at hu⟩, by simp⟩
  · simp [Value.cells] at hcs
    obtain ⟨rfl, rfl, rfl⟩ := hcs
    simp only [if_true] at hz
    refine ⟨zs.take len, ⟨some a, cap, by rw [List.length_take, Nat.min_eq_left (by omega)], by rw [List.length_take]; omega, hm, fun j u hu => ?_⟩, fun x hx => hwz x (List.mem_of_mem_take hx)⟩
    have hj : j < len := by have := (List.getElem?_eq_some_iff.1 hu).1; simp at this; omega
    have hc := hcell j (by omega)
    obtain ⟨b, off, spot⟩ := a
    have hspot : spot = none := by simpa [Addr.add] using World.cell?_spot (hcell 0 (by omega))
    subst hspot
    refine ⟨b, off, rfl, ?_⟩
    rw [add_plain] at hc
    rw [hc, ← hu]
    simp [List.getElem?_take, hj, show j < zs.length by omega]

end
end Go.Proofs.YtenedpboehkmjaaGreat
/- How an argument that is a slice of small structs is opened: generic, no program in sight. -/
set_option linter.unusedSimpArgs false
set_option linter.unnecessarySimpa false
set_option linter.unusedVariables false
namespace Go.Proofs.YtenedpboehkmjaaGreat
open Go.ChangeShapes Go.WideShapes Go.ChangeAt Go.RowKit Go.Deep

theorem len2 : ∀ (l : List Value), l.length = 2 → ∃ a b, l = [a, b]
  | [a, b], _ => ⟨a, b, rfl⟩
theorem len3 : ∀ (l : List Value), l.length = 3 → ∃ a b c, l = [a, b, c]
  | [a, b, c], _ => ⟨a, b, c, rfl⟩

section
variable {H : Type} {enc : TypeId × Value → H} {P : Program} {W : World}

theorem flat_get {α : Type} {f : α → List Value} {m : Nat} (hf : ∀ x, (f x).length = m) (xs : List α) (k r : Nat) (hk : k < xs.length) (hr : r < m) : (xs.flatMap f)[k * m + r]? = (f xs[k])[r]? := by
  have h : r < (f xs[k]).length := by rw [hf]; exact hr
  rw [flat_at hf xs k r hk hr (List.getElem?_eq_getElem h), List.getElem?_eq_getElem h]

/-- An argument that is a slice of T's, T's cells being read by 'one'. -/
theorem open_structs {α : Type} (f : α → List Value) (R : α → Prop) (m : Nat) (hm : 0 < m) (hf : ∀ x, (f x).length = m) {t e : TypeId} (ht : P.underlying t = some (.slice e)) (hc : P.cellsOf e = m)
    (one : ∀ (n : Nat) (cs : List Value) (y : DataW H × List MemPlace), DataW.trod enc P W 0 (fun _ => true) true n e cs = some y → ∃ x : α, cs = f x ∧ R x)
    {v : Value} {n : Nat} {y : DataW H × List MemPlace} (h : DataW.trod enc P W 0 (fun _ => true) true n t [v] = some y) :
    ∃ xs : List α, Sl W v xs.length (xs.flatMap f) ∧ ∀ x ∈ xs, R x := by
  rcases open_slice ht h with ⟨hcs, _⟩ | ⟨a, len, cap, m', n', D, Pl, hcs, _, hl, hmx, hm', _, hx⟩
  · simp only [List.cons.injEq, and_true] at hcs
    subst hcs
    exact ⟨[], ⟨none, 0, rfl, Nat.le_refl _, by simp [maxLen], fun j u hu => by simp at hu⟩, by simp⟩
  · simp only [List.cons.injEq, and_true] at hcs
    subst hcs
    simp only [if_true] at hm'
    rw [hc] at hx
    have hx' : ∀ i, i < len → ∃ x : α, W.cells? 0 (a.add (i * m)) m = some (f x) ∧ R x := fun i hi => by
      obtain ⟨cs', h1, h2⟩ := hx i (by omega)
      obtain ⟨x, rfl, hr⟩ := one _ _ _ h2
      exact ⟨x, h1, hr⟩
    by_cases h0 : len = 0
    · subst h0
      exact ⟨[], ⟨some a, cap, rfl, hl, hmx, fun j u hu => by simp at hu⟩, by simp⟩
    · obtain ⟨x0, _, _⟩ := hx' 0 (by omega)
      have : Nonempty α := ⟨x0⟩
      obtain ⟨X, hX⟩ : ∃ X : Nat → α, ∀ i, i < len → W.cells? 0 (a.add (i * m)) m = some (f (X i)) ∧ R (X i) :=
        ⟨fun i => if hi : i < len then Classical.choose (hx' i hi) else x0, fun i hi => by simp only [dif_pos hi]; exact Classical.choose_spec (hx' i hi)⟩
      have hspot : a.spot = none := by
        obtain ⟨h1, _⟩ := hX 0 (by omega)
        obtain ⟨_, hlen, hcell⟩ := World.cells?_some h1
        have h2 := hcell 0 hm
        rw [List.getElem?_eq_getElem (by rw [hlen]; exact hm)] at h2
        have := World.cell?_spot h2
        simpa [Addr.add] using this
      obtain ⟨b, off, spot⟩ := a
      simp only at hspot
      subst hspot
      have hlen : ((List.range len).map X).length = len := by simp
      refine ⟨(List.range len).map X, ⟨some ⟨b, off, none⟩, cap, by rw [hlen], by rw [hlen]; exact hl, hmx, fun j u hu => ⟨b, off, rfl, ?_⟩⟩, fun x hxm => ?_⟩
      · have hj : j < len * m := by have := (List.getElem?_eq_some_iff.1 hu).1; rw [flat_len hf, hlen] at this; exact this
        have hk : j / m < len := Nat.div_lt_of_lt_mul (by rw [Nat.mul_comm]; exact hj)
        have hr : j % m < m := Nat.mod_lt _ hm
        have hjm : j / m * m + j % m = j := by rw [Nat.mul_comm]; exact Nat.div_add_mod j m
        obtain ⟨h1, _⟩ := hX (j / m) hk
        obtain ⟨_, _, hcell⟩ := World.cells?_some h1
        have h2 := hcell (j % m) hr
        rw [Addr.add_lit, Addr.add_lit, Nat.add_assoc, hjm] at h2
        rw [h2, ← hu]
        have h3 := flat_get hf ((List.range len).map X) (j / m) (j % m) (by rw [hlen]; exact hk) hr
        rw [hjm] at h3
        rw [h3]
        simp
      · obtain ⟨i, hi, rfl⟩ := List.mem_map.1 hxm
        exact (hX i (by simpa using hi)).2

end
end Go.Proofs.YtenedpboehkmjaaGreat
/- A region that draws its order: one order that is computed serves every order, where what only reads is stable, and all else comes up alone. No program in sight. -/
set_option linter.unusedSimpArgs false
set_option linter.unnecessarySimpa false
set_option linter.unusedVariables false
namespace Go.Proofs.YtenedpboehkmjaaGreat
open Go.RowKit

/-- w with new blocks and, where row is a block's number, another block in its place. -/
def ext (w : World) (row : Option Nat) (x : Array Obj × Nat × Obj) : World :=
  { w with heap := (match row with | some g => w.heap.setIfInBounds g x.2.2 | none => w.heap) ++ x.1, drawn := x.2.1 }

theorem size_ext (w : World) (row : Option Nat) (x : Array Obj × Nat × Obj) : w.heap.size ≤ (ext w row x).heap.size := by
  cases row <;> simp [ext]

theorem heap_ext {w : World} {row : Option Nat} {x : Array Obj × Nat × Obj} {k : Nat} (h : k < w.heap.size) (hk : some k ≠ row) : (ext w row x).heap[k]? = w.heap[k]? := by
  cases row with
  | none => simp [ext, Array.getElem?_append, h]
  | some g =>
    have : g ≠ k := fun e => hk (by rw [e])
    simp [ext, Array.getElem?_append, h, Array.getElem?_setIfInBounds, this]

theorem grown_ext (w : World) (row : Option Nat) (x : Array Obj × Nat × Obj) : w.grownBy (ext w row x) row :=
  ⟨rfl, rfl, rfl, size_ext w row x, fun k h hk => heap_ext h hk⟩

theorem world_eq {w w' : World} (h1 : w'.heap = w.heap) (h2 : w'.tape = w.tape) (h3 : w'.drawn = w.drawn) (h4 : w'.os = w.os) (h5 : w'.output = w.output) : w' = w := by
  cases w'; cases w; simp only at *; subst h1 h2 h3 h4 h5; rfl

theorem ext_of_grown {w w' : World} {row : Option Nat} (h : w.grownBy w' row) : ∃ x, w' = ext w row x := by
  have key : ∀ (H : Array Obj), H.size = w.heap.size → (∀ k, k < w.heap.size → H[k]? = w'.heap[k]?) → w'.heap = H ++ w'.heap.extract w.heap.size w'.heap.size := by
    intro H hs hk
    apply Array.ext_getElem?
    intro i
    by_cases hi : i < w.heap.size
    · rw [Array.getElem?_append_left (by omega), hk i hi]
    · rw [Array.getElem?_append_right (by omega), hs]
      by_cases h2 : i < w'.heap.size
      · rw [Array.getElem?_extract_of_lt (by omega)]
        simp only [show w.heap.size + (i - w.heap.size) = i by omega]
        exact Array.getElem?_eq_getElem h2
      · rw [Array.getElem?_eq_none (by omega), Array.getElem?_eq_none (by simp; omega)]
  cases row with
  | none =>
    refine ⟨(w'.heap.extract w.heap.size w'.heap.size, w'.drawn, .cells #[] 0 (0, 0)), ?_⟩
    have := key w.heap rfl (fun k hk => (h.block k hk (by simp)).symm)
    have h1 := h.os; have h2 := h.tape; have h3 := h.output
    exact world_eq this h2 rfl h1 h3
  | some g =>
    by_cases hg : g < w.heap.size
    · have hg' : g < w'.heap.size := Nat.lt_of_lt_of_le hg h.size
      refine ⟨(w'.heap.extract w.heap.size w'.heap.size, w'.drawn, w'.heap[g]), ?_⟩
      have := key (w.heap.setIfInBounds g w'.heap[g]) (by simp) (fun k hk => by
        by_cases e : g = k
        · subst e; simp [hg, hg']
        · rw [Array.getElem?_setIfInBounds_ne e]; exact (h.block k hk (by simpa using fun e' => e e'.symm)).symm)
      have h1 := h.os; have h2 := h.tape; have h3 := h.output
      exact world_eq this h2 rfl h1 h3
    · refine ⟨(w'.heap.extract w.heap.size w'.heap.size, w'.drawn, .cells #[] 0 (0, 0)), ?_⟩
      have := key (w.heap.setIfInBounds g (.cells #[] 0 (0, 0))) (by simp) (fun k hk => by
        rw [Array.getElem?_setIfInBounds_ne (by omega)]; exact (h.block k hk (by simpa using by omega)).symm)
      have h1 := h.os; have h2 := h.tape; have h3 := h.output
      exact world_eq this h2 rfl h1 h3

@[go_sem] theorem cell?_ext {w : World} {row : Option Nat} {x : Array Obj × Nat × Obj} {b o : Nat} (h : b < w.heap.size) (hr : some b ≠ row) : (ext w row x).cell? ⟨b, o, none⟩ = w.cell? ⟨b, o, none⟩ :=
  World.cell?_of_block (heap_ext h hr)

section
variable {P : Program} {ops : Array Oper} {md : Region.Mode} {w0 : World} {row : Option Nat}

/-- The operation yields one value in every world that is w0 grown, and leaves that world alone. -/
def softAt (P : Program) (w0 : World) (row : Option Nat) (o : Oper) (a : Act) (K : Act → Prop) : Prop :=
  ∃ v, (∀ x, (execOp a.eval o).run P (ext w0 row x) = .ok (.value v) (ext w0 row x)) ∧ K (a.put o.dst v)

attribute [go_sem] softAt

/-- The walk in a given order: 'true': an operation that only reads. -/
def wpOrd (P : Program) (ops : Array Oper) (Q : Exit → Act → World → Prop) (w0 : World) (row : Option Nat) (T : Act → World → Prop) : List (Nat × Bool) → Act → World → Prop
  | [], a, w => T a w
  | (i, true) :: r, a, w =>
    match ops[i]? with
    | none => False
    | some o => if Region.wanted o (yielded ops a.tmps) = true then softAt P w0 row o a (fun a' => wpOrd P ops Q w0 row T r a' w) else wpOrd P ops Q w0 row T r (a.put o.dst undef) w
  | (i, false) :: r, a, w => wpOp P ops Q i (fun a' w' => w0.grownBy w' row ∧ wpOrd P ops Q w0 row T r a' w') a w

def ordB (md : Region.Mode) (ops : Array Oper) : List (Nat × Bool) → Array Bool → Bool
  | [], listed => (Region.ready md ops listed).isEmpty
  | (i, true) :: r, listed => (Region.ready md ops listed).contains i && Region.free md ops listed i && ordB md ops r (listed.setIfInBounds i true)
  | (i, false) :: r, listed => decide (Region.ready md ops listed = [i]) && ordB md ops r (listed.setIfInBounds i true)

theorem wpOrd_sound {Q : Exit → Act → World → Prop} (hsel : Region.noSelect ops = true) (hQ : ∀ c a d v w, Q (.panic c) (Act.put a d v) w → Q (.panic c) a w) :
    ∀ (l : List (Nat × Bool)) (listed : Array Bool) (a : Act) (w : World), ordB md ops l listed = true → w0.grownBy w row →
      wpOrd P ops Q w0 row (Q .normal) l a w → wpAnyH P md ops Q (fun w => w0.grownBy w row) l.length listed a w
  | [], listed, a, w, hB, hS, h => ⟨by simpa [ordB] using hB, h⟩
  | (i, true) :: r, listed, a, w, hB, hS, h => by
    simp only [ordB, Bool.and_eq_true] at hB
    obtain ⟨⟨hr, hf⟩, hB'⟩ := hB
    simp only [wpOrd] at h
    split at h
    · exact h.elim
    · rename_i o ho
      split at h
      · rename_i hw
        obtain ⟨v, h1, h2⟩ := h
        refine wpAnyH_take ho hsel hf hr (fun c a w => hQ c a _ _ w) (.inl ⟨hw, fun w' hw' => ?_⟩) hS (wpOrd_sound hsel hQ r _ _ w hB' hS h2)
        obtain ⟨x, rfl⟩ := ext_of_grown hw'
        exact h1 x
      · rename_i hw
        exact wpAnyH_take ho hsel hf hr (fun c a w => hQ c a _ _ w) (.inr ⟨by simpa using hw, rfl⟩) hS (wpOrd_sound hsel hQ r _ _ w hB' hS h)
  | (i, false) :: r, listed, a, w, hB, hS, h => by
    simp only [ordB, Bool.and_eq_true, decide_eq_true_eq] at hB
    obtain ⟨hr, hB'⟩ := hB
    refine wpAnyH_all hr (by simp) (fun j hj => ?_)
    have hj' : j = i := by simpa using hj
    subst hj'
    exact wpOp_mono (fun a' w' h' => ⟨h'.1, wpOrd_sound hsel hQ r _ a' w' hB' h'.1 h'.2⟩) h

/-- A region in the order 'ord'. -/
theorem wp_region_ord {id : Nat} {Q : Exit → Act → World → Prop} {a : Act} {w : World} {l : List Oper} (ord : List (Nat × Bool)) (row : Option Nat) (hm : P.follows .mixedOrders = true)
    (hB : (Region.noSelect l.toArray && decide (ord.length = l.length) && ordB .any l.toArray ord (Array.replicate l.length false)) = true)
    (h : wpOrd P l.toArray (NoPanic Q) w row (NoPanic Q .normal) ord a w.drew) : (Code.region id l.toArray true).wp P Q a w := by
  simp only [Bool.and_eq_true, decide_eq_true_eq] at hB
  obtain ⟨⟨h1, h2⟩, h3⟩ := hB
  refine wp_region_noPanic (wp_region_any hm ?_)
  have := wpOrd_sound (md := .any) (w0 := w) (row := row) h1 (fun c a d v w h => (h : False).elim) ord _ a w.drew h3 ⟨rfl, rfl, rfl, Nat.le_refl _, fun _ _ _ => rfl⟩ h
  rw [h2] at this
  exact wpAny_of_held _ _ _ _ (by simpa using this)

theorem wpOrd_nil {Q : Exit → Act → World → Prop} {T : Act → World → Prop} {a : Act} {w : World} (h : T a w) : wpOrd P ops Q w0 row T [] a w := h

/-- What only reads. -/
theorem wpOrd_soft {Q : Exit → Act → World → Prop} {T : Act → World → Prop} {i : Nat} {r : List (Nat × Bool)} {a : Act} {w : World}
    (h : ∀ K : Act → Prop, (∀ a, wpOrd P ops Q w0 row T r a w → K a) → match ops[i]? with | none => False | some o => if Region.wanted o (yielded ops a.tmps) = true then softAt P w0 row o a K else K (a.put o.dst undef)) : wpOrd P ops Q w0 row T ((i, true) :: r) a w :=
  h _ fun _ h => h

/-- The post of one operation alone. -/
def only (Q : Exit → Act → World → Prop) (K : Act → World → Prop) : Exit → Act → World → Prop
  | .normal, a, w => K a w
  | .panic c, a, w => Q (.panic c) a w
  | .outgrown, a, w => Q .outgrown a w
  | _, _, _ => False

/-- All else: one operation, as a list of its own. -/
theorem wpOrd_hard {Q : Exit → Act → World → Prop} {T : Act → World → Prop} {i : Nat} {r : List (Nat × Bool)} {a : Act} {w : World}
    (h : match ops[i]? with | none => False | some o => wpList P ops (only Q fun a' w' => w0.grownBy w' row ∧ wpOrd P ops Q w0 row T r a' w') [o] a w) : wpOrd P ops Q w0 row T ((i, false) :: r) a w := by
  simp only [wpOrd]
  unfold wpOp
  split at h
  · exact h.elim
  rename_i o ho
  simp only [ho]
  simp only [wpList] at h
  split
  · rename_i hw
    rw [if_pos hw] at h
    refine h.imp (fun h => ?_) (fun ⟨h1, h2⟩ => ⟨h1, h2⟩)
    unfold Oper.wp at *
    generalize (execOp a.eval o).run P w = res at *
    cases res with
    | ok n w' =>
      cases n <;> simp only [Oper.upon] at h ⊢ <;> first | exact h | exact Calls.mono h (fun e w'' he => by cases e <;> exact he)
    | halt x w' => cases x <;> simp only [Oper.upon] at h ⊢ <;> exact h
  · rename_i hw
    rw [if_neg hw] at h
    exact h

/-- An operation whose guard says no. -/
theorem wpOrd_skip {Q : Exit → Act → World → Prop} {T : Act → World → Prop} {i : Nat} {r : List (Nat × Bool)} {a : Act} {w : World} (hg : w0.grownBy w row)
    (h : ∀ K : Act → Prop, (∀ a, wpOrd P ops Q w0 row T r a w → K a) → match ops[i]? with | none => False | some o => Region.wanted o (yielded ops a.tmps) = false ∧ K (a.put o.dst undef)) : wpOrd P ops Q w0 row T ((i, false) :: r) a w := by
  have := h _ fun _ h => h
  simp only [wpOrd]
  unfold wpOp
  split at this
  · exact this.elim
  · rename_i o ho
    simp only [ho]
    rw [if_neg (by rw [this.1]; exact Bool.false_ne_true)]
    exact ⟨hg, this.2⟩

theorem soft_no {c : Bool} {A B : Prop} (h : c = false) (hb : B) : if c = true then A else B := by
  subst h; exact hb

end
end Go.Proofs.YtenedpboehkmjaaGreat
/- Words for the laws' own walks: memory in a range of blocks, what a mark touches. No program in sight. -/
set_option linter.unusedSimpArgs false
set_option linter.unnecessarySimpa false
set_option linter.unusedVariables false
namespace Go.Proofs.YtenedpboehkmjaaGreat
open Go.RowKit

/-- Of what was there, blocks from B to E alone may have been written. -/
structure Touch (B E : Nat) (w w' : World) : Prop where
  os : w'.os = w.os
  tape : w'.tape = w.tape
  output : w'.output = w.output
  size : w.heap.size ≤ w'.heap.size
  block : ∀ k, k < w.heap.size → (k < B ∨ E ≤ k) → w'.heap[k]? = w.heap[k]?

theorem Touch.of_grown {B E : Nat} {w w' : World} {row : Option Nat} (h : w.grownBy w' row) (hr : ∀ k, row = some k → B ≤ k ∧ k < E) : Touch B E w w' :=
  ⟨h.os, h.tape, h.output, h.size, fun k hk hne => h.block k hk (fun e => by have := hr k e.symm; omega)⟩
theorem Touch.below {B E : Nat} {w w' : World} {W : World} {b : Nat} (t : Touch B E w w') (h : Below b W w) (hb : b ≤ B) (hW : b ≤ w.heap.size) : Below b W w' :=
  h.trans ⟨t.os, t.tape, t.output, t.size, fun k hk => t.block k (by omega) (.inl (by omega))⟩

theorem cellB {w w' : World} {p : Addr} {v : Value} (hb : Below w.heap.size w w') (h : w.cell? p = some v) : w'.cell? p = some v := (hb.cell (World.block_lt_of_cell? w _ h)).trans h
theorem cellT {B E : Nat} {w w' : World} {p : Addr} {v : Value} (t : Touch B E w w') (h : w.cell? p = some v) (hp : p.block < B ∨ E ≤ p.block) : w'.cell? p = some v :=
  (World.cell?_of_block (w := w) (t.block _ (World.block_lt_of_cell? w _ h) hp)).trans h
theorem belowA (w : World) (o : Obj) : Below w.heap.size w (w.alloc o) := (Below.refl _ _).alloc (Nat.le_refl _) _

/-- v owns the cells cs, in blocks from B to E. -/
def OwnRow (B E : Nat) (w : World) (e : TypeId) (size : Nat) (v : Value) (n : Nat) (cs : List Value) : Prop :=
  w.ownsRow B e size v n cs ∧ ∀ k, v.ownBlock = some k → k < E

section
variable {B E B' E' : Nat} {w w' : World} {e : TypeId} {size n : Nat} {v : Value} {cs : List Value}
theorem OwnRow.mk' (h : w.ownsRow B e size v n cs) : OwnRow B w.heap.size w e size v n cs := ⟨h, fun k hk => (h.lt k hk).2⟩
theorem OwnRow.mono (h : OwnRow B E w e size v n cs) (hb : Below w.heap.size w w') : OwnRow B E w' e size v n cs := ⟨owns_mono h.1 hb, h.2⟩
theorem OwnRow.touch (h : OwnRow B E w e size v n cs) (t : Touch B' E' w w') (hd : E ≤ B' ∨ E' ≤ B) : OwnRow B E w' e size v n cs := by
  refine ⟨⟨h.1.1, ?_⟩, h.2⟩
  rcases h.1.2 with h2 | ⟨g, cap, cur, rfl, b, c, d⟩
  · exact .inl h2
  · have hg := h.2 g rfl
    exact .inr ⟨g, cap, cur, rfl, b, (t.block g (Array.getElem?_eq_some_iff.1 c).1 (by omega)).trans c, d⟩
theorem OwnRow.form (h : OwnRow B E w e size v n cs) : ∃ a cap, v = .slice a n cap := owns_slice h.1
theorem OwnRow.sl (h : OwnRow B E w e size v n cs) : Sl w v n cs := Sl.of_owns h.1
theorem OwnRow.wide (h : OwnRow B E w e size v n cs) (hB : B' ≤ B) (hE : E ≤ E') : OwnRow B' E' w e size v n cs := ⟨owns_base h.1 hB, fun k hk => Nat.lt_of_lt_of_le (h.2 k hk) hE⟩
end

/-- The numbers k, k + 1 .., n of them. -/
def marksI (k : Int) (n : Nat) : List Value := (List.range n).map fun (i : Nat) => .int .i64 (k + i)
theorem marksI_nat (k n : Nat) : marksI k n = marks k n := by
  unfold marksI marks; apply List.map_congr_left; intro i _; rw [Int.natCast_add]

end Go.Proofs.YtenedpboehkmjaaGreat
/- Contracts of within and l00In. -/
set_option linter.unusedSimpArgs false
set_option linter.unnecessarySimpa false
set_option linter.unusedVariables false
namespace Go.Proofs.YtenedpboehkmjaaGreat
open Go.RowKit

theorem within_any (b : Bool) (n lo hi : Int) (w : World) (h : b = decide (lo ≤ n ∧ n ≤ hi)) :
    Calls Tryz.prog 71 #[.int .i64 n, .int .i64 lo, .int .i64 hi] w fun e w' => e = .returned (.bool b) ∧ w' = w := by
  subst h
  by_cases h1 : lo ≤ n <;> by_cases h2 : n ≤ hi
  all_goals
    have e1 : decide (n ≤ hi) = decide (n ≤ hi) := rfl
    first | have d1 : decide (lo ≤ n) = true := by simpa using h1
          | have d1 : decide (lo ≤ n) = false := by simpa using h1
    first | have d2 : decide (n ≤ hi) = true := by simpa using h2
          | have d2 : decide (n ≤ hi) = false := by simpa using h2
    clear e1
    go_enter Tryz.func71, Tryz.ntmps71
    go_wp2
    go_ret
    exact ⟨by simp [d1, d2, h1, h2], rfl⟩

theorem l00In_any (b : Bool) (n lo hi : Int) (w : World) (h : b = decide (lo ≤ n ∧ n ≤ hi)) :
    Calls Tryz.prog 42 #[.int .i64 n, .int .i64 lo, .int .i64 hi] w fun e w' => e = .returned (.bool b) ∧ w' = w := by
  subst h
  by_cases h1 : lo ≤ n <;> by_cases h2 : n ≤ hi
  all_goals
    first | have d1 : decide (lo ≤ n) = true := by simpa using h1
          | have d1 : decide (lo ≤ n) = false := by simpa using h1
    first | have d2 : decide (n ≤ hi) = true := by simpa using h2
          | have d2 : decide (n ≤ hi) = false := by simpa using h2
    go_enter Tryz.func42, Tryz.ntmps42
    go_wp2
    go_ret
    exact ⟨by simp [d1, d2, h1, h2], rfl⟩

end Go.Proofs.YtenedpboehkmjaaGreat
