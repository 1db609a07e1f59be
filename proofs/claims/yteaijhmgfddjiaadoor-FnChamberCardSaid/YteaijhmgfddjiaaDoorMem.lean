/-
  Memory words of our own: a slice value that reads as a list of cells; how that is kept from world to world. No program in sight.
-/
import Derived.WalkKit
import Derived.WalkSpells
import Derived.WalkLawsBesides
import Derived.Lib.Hide
set_option linter.unusedSimpArgs false
set_option linter.unnecessarySimpa false
set_option linter.unusedVariables false
namespace Go.Proofs.YteaijhmgfddjiaaDoor
open Go.RowKit

/-- v is a slice of n elements; its first cells are cs. -/
def Sl (w : World) (v : Value) (n : Nat) (cs : List Value) : Prop :=
  ∃ a cap, v = .slice a n cap ∧ n ≤ cap ∧ cap ≤ maxLen ∧ ∀ j u, cs[j]? = some u → ∃ b off, a = some ⟨b, off, none⟩ ∧ w.cell? ⟨b, off + j, none⟩ = some u

/-- v reads as the numbers zs. -/
def Ints (w : World) (v : Value) (zs : List Int) : Prop := Sl w v zs.length (zs.map (Value.int .i64))

theorem Sl.mono {w w' : World} {v : Value} {n : Nat} {cs : List Value} (h : Sl w v n cs) (hb : Below w.heap.size w w') : Sl w' v n cs := by
  obtain ⟨a, cap, rfl, h1, h2, h3⟩ := h
  refine ⟨a, cap, rfl, h1, h2, fun j u hu => ?_⟩
  obtain ⟨b, off, rfl, hc⟩ := h3 j u hu
  exact ⟨b, off, rfl, (hb.cell (p := ⟨b, off + j, none⟩) (World.block_lt_of_cell? w _ hc)).trans hc⟩

theorem Ints.mono {w w' : World} {v : Value} {zs : List Int} (h : Ints w v zs) (hb : Below w.heap.size w w') : Ints w' v zs := Sl.mono h hb

theorem Sl.cells {w : World} {a : Option Addr} {n cap : Nat} {cs : List Value} (h : Sl w (.slice a n cap) n cs) (hn : 0 < cs.length) :
    ∃ b off, a = some ⟨b, off, none⟩ ∧ ∀ j u, cs[j]? = some u → w.cell? ⟨b, off + j, none⟩ = some u := by
  obtain ⟨a', cap', e, _, _, h3⟩ := h
  cases e
  obtain ⟨b, off, rfl, _⟩ := h3 0 cs[0] (by simp [hn])
  refine ⟨b, off, rfl, fun j u hu => ?_⟩
  obtain ⟨b', off', e, hc⟩ := h3 j u hu
  cases e
  exact hc

theorem Sl.of_owns {w : World} {base : Nat} {e : TypeId} {size n : Nat} {v : Value} {cs : List Value} (h : w.ownsRow base e size v n cs) : Sl w v n cs := by
  obtain ⟨hl, ⟨rfl, rfl⟩ | ⟨g, cap, cur, rfl, _, hg, hn, hc, hs, ht⟩⟩ := h
  · refine ⟨none, 0, rfl, Nat.le_refl _, by simp [maxLen], fun j u hu => ?_⟩
    simp at hl; subst hl; simp at hu
  · refine ⟨_, _, rfl, hn, hc, fun j u hu => ⟨g, 0, rfl, ?_⟩⟩
    rw [Nat.zero_add, cell_of_row w g j cur e (0, 0) hg, ← hu, ← ht, List.getElem?_take]
    have := (List.getElem?_eq_some_iff.1 hu).1
    rw [if_pos (by omega)]; simp

theorem Ints.of_owns {w : World} {base : Nat} {e : TypeId} {v : Value} {zs : List Int} (h : w.ownsRow base e 1 v zs.length (zs.map (Value.int .i64))) : Ints w v zs := Sl.of_owns h

/-- Owned from 'base' on: kept in every later world of 'Below' at that world's size. -/
theorem owns_mono {w w' : World} {base : Nat} {e : TypeId} {size n : Nat} {v : Value} {cs : List Value} (h : w.ownsRow base e size v n cs) (hb : Below w.heap.size w w') : w'.ownsRow base e size v n cs := by
  refine ⟨h.1, ?_⟩
  rcases h.2 with h2 | ⟨g, cap, cur, a, b, c, d⟩
  · exact .inl h2
  · exact .inr ⟨g, cap, cur, a, b, (hb.block g (Array.getElem?_eq_some_iff.1 c).1).trans c, d⟩

theorem owns_base {w : World} {base base' : Nat} {e : TypeId} {size n : Nat} {v : Value} {cs : List Value} (h : w.ownsRow base e size v n cs) (hb : base' ≤ base) : w.ownsRow base' e size v n cs := by
  refine ⟨h.1, ?_⟩
  rcases h.2 with h2 | ⟨g, cap, cur, a, b, c⟩
  · exact .inl h2
  · exact .inr ⟨g, cap, cur, a, by omega, c⟩

/-- w' is w after some draws of the tape: memory is as it was. -/
def Q (w w' : World) : Prop := ∃ n, w' = w.drewN n
theorem Q.refl (w : World) : Q w w := ⟨0, rfl⟩
theorem Q.drewN {w w' : World} (h : Q w w') (n : Nat) : Q w (w'.drewN n) := by obtain ⟨m, rfl⟩ := h; exact ⟨m + n, World.drewN_drewN ..⟩
theorem Q.drew {w w' : World} (h : Q w w') : Q w w'.drew := by obtain ⟨m, rfl⟩ := h; exact ⟨m + 1, rfl⟩
theorem Q.trans {a b c : World} (h : Q a b) (k : Q b c) : Q a c := by obtain ⟨m, rfl⟩ := h; obtain ⟨n, rfl⟩ := k; exact ⟨m + n, World.drewN_drewN ..⟩
theorem Q.below {w w' : World} (h : Q w w') (B : Nat) : Below B w w' := by obtain ⟨m, rfl⟩ := h; exact below_drewN (Below.refl _ _) m
theorem Q.cell {w w' : World} (h : Q w w') (p : Addr) : w'.cell? p = w.cell? p := by obtain ⟨m, rfl⟩ := h; rfl
theorem Q.heap {w w' : World} (h : Q w w') : w'.heap = w.heap := by obtain ⟨m, rfl⟩ := h; rfl
theorem quiet_q {P : Program} {f : FuncId} {args : Array Value} {w : World} {n : Nat} {v : Value}
    (h : Calls P f args (w.drewN n) fun e w' => e = .returned v ∧ Q (w.drewN n) w') : Calls P f args (w.drewN n) fun e w'' => e = .returned v ∧ ∃ m, w'' = w.drewN m :=
  h.mono fun _ _ ⟨he, m, hm⟩ => ⟨he, n + m, by rw [hm, World.drewN_drewN]⟩
theorem Ints.q {w w' : World} {v : Value} {zs : List Int} (h : Ints w v zs) (hq : Q w w') : Ints w' v zs := h.mono (hq.below _)

theorem Below.drawN {w : World} (n : Nat) : Below w.heap.size w (w.drewN n) := below_drewN (Below.refl _ _) n

theorem flat_len {α : Type} {f : α → List Value} {m : Nat} (hf : ∀ x, (f x).length = m) : ∀ (xs : List α), (xs.flatMap f).length = xs.length * m
  | [] => by simp
  | x :: xs => by rw [List.flatMap_cons, List.length_append, hf, flat_len hf xs, List.length_cons, Nat.succ_mul]; omega

theorem flat_at {α : Type} {f : α → List Value} {m : Nat} (hf : ∀ x, (f x).length = m) : ∀ (xs : List α) (k j : Nat) (hk : k < xs.length) (hj : j < m) {u : Value}, (f xs[k])[j]? = some u → (xs.flatMap f)[k * m + j]? = some u
  | x :: xs, 0, j, hk, hj, u, h => by
    rw [List.flatMap_cons, List.getElem?_append_left (by rw [hf]; omega), Nat.zero_mul, Nat.zero_add]
    exact h
  | x :: xs, k + 1, j, hk, hj, u, h => by
    rw [List.flatMap_cons, List.getElem?_append_right (by rw [hf, Nat.succ_mul]; omega), hf, show (k + 1) * m + j - m = k * m + j by rw [Nat.succ_mul]; omega]
    exact flat_at hf xs k j (by simpa using hk) hj (by simpa using h)

theorem set_at (A : List Value) (z a : Value) (R : List Value) : (A ++ z :: R).set A.length a = A ++ a :: R := by
  rw [List.set_append_right _ _ (Nat.le_refl _), Nat.sub_self, List.set_cons_zero]
theorem set_at' {A : List Value} {z a : Value} {R : List Value} {j : Nat} (h : A.length = j) : (A ++ z :: R).set j a = A ++ a :: R := by rw [← h, set_at]

theorem grown_trans {a b c : World} {row : Option Nat} (h : a.grownBy b row) (k : b.grownBy c row) : a.grownBy c row :=
  ⟨k.os.trans h.os, k.tape.trans h.tape, k.output.trans h.output, Nat.le_trans h.size k.size, fun i hi hr => (k.block i (Nat.lt_of_lt_of_le hi h.size) hr).trans (h.block i hi hr)⟩

theorem stored1 {w : World} {base : Nat} {e : TypeId} {size g n cap : Nat} {A R : List Value} {z : Value} {j : Nat} (h : w.ownsRow base e size (.slice (some ⟨g, 0, none⟩) n cap) n (A ++ z :: R)) (hA : A.length = j) (a : Value) :
    (w.setCell ⟨g, j, none⟩ a).ownsRow base e size (.slice (some ⟨g, 0, none⟩) n cap) n (A ++ a :: R) ∧ w.grownBy (w.setCell ⟨g, j, none⟩ a) (some g) := by
  have := h.stored j a
  rwa [set_at' hA] at this

theorem stored2 {w : World} {base : Nat} {e : TypeId} {size g n cap : Nat} {A R : List Value} {z0 z1 : Value} {j : Nat} (h : w.ownsRow base e size (.slice (some ⟨g, 0, none⟩) n cap) n (A ++ z0 :: z1 :: R)) (hA : A.length = j) (a b : Value) :
    ((w.setCell ⟨g, j, none⟩ a).setCell ⟨g, j + 1, none⟩ b).ownsRow base e size (.slice (some ⟨g, 0, none⟩) n cap) n (A ++ a :: b :: R) ∧ w.grownBy ((w.setCell ⟨g, j, none⟩ a).setCell ⟨g, j + 1, none⟩ b) (some g) := by
  have h1 := stored1 h hA a
  have h2 := stored1 (A := A ++ [a]) (z := z1) (R := R) (j := j + 1) (by simpa using h1.1) (by simp [hA]) b
  exact ⟨by simpa using h2.1, grown_trans h1.2 h2.2⟩

theorem stored3 {w : World} {base : Nat} {e : TypeId} {size g n cap : Nat} {A R : List Value} {z0 z1 z2 : Value} {j : Nat} (h : w.ownsRow base e size (.slice (some ⟨g, 0, none⟩) n cap) n (A ++ z0 :: z1 :: z2 :: R)) (hA : A.length = j) (a b c : Value) :
    (((w.setCell ⟨g, j, none⟩ a).setCell ⟨g, j + 1, none⟩ b).setCell ⟨g, j + 2, none⟩ c).ownsRow base e size (.slice (some ⟨g, 0, none⟩) n cap) n (A ++ a :: b :: c :: R) ∧ w.grownBy (((w.setCell ⟨g, j, none⟩ a).setCell ⟨g, j + 1, none⟩ b).setCell ⟨g, j + 2, none⟩ c) (some g) := by
  have h1 := stored2 h hA a b
  have h2 := stored1 (A := A ++ [a, b]) (z := z2) (R := R) (j := j + 2) (by simpa using h1.1) (by simp [hA]) c
  exact ⟨by simpa using h2.1, grown_trans h1.2 h2.2⟩

theorem toList_madeCells (z : Array Value) (n m : Nat) (x : Value) (hz : z = Array.replicate (m + 1) x) : (madeCells z n).toList = List.replicate n x := by
  subst hz
  apply List.ext_getElem?
  intro j
  by_cases hj : j < n
  · simp [madeCells, hj, Nat.mod_lt]
  · simp [madeCells, hj]
theorem made_rep2 (n : Nat) : (madeCells #[.int .i64 0, .int .i64 0] n).toList = List.replicate n (.int .i64 0) := toList_madeCells _ n 1 _ rfl
theorem made_rep3 (n : Nat) : (madeCells #[.int .i64 0, .int .i64 0, .int .i64 0] n).toList = List.replicate n (.int .i64 0) := toList_madeCells _ n 2 _ rfl

/-- The numbers k, k + 1 .., n of them. -/
def marks (k n : Nat) : List Value := (List.range n).map fun i => .int .i64 ↑(k + i)
theorem marks_len (k n : Nat) : (marks k n).length = n := by simp [marks]
theorem marks_get (k n i : Nat) (h : i < n) : (marks k n)[i]? = some (.int .i64 ↑(k + i)) := by simp [marks, h]
theorem marks_succ (k n : Nat) : marks k (n + 1) = marks k n ++ [.int .i64 ↑(k + n)] := by simp [marks, List.range_succ]
theorem marks_at (k n : Nat) (cs : List Value) (j : Nat) (h : n + j < cs.length) : (marks k n ++ cs.drop n)[n + j]? = some (cs.getD (n + j) .nilFunc) := by
  rw [List.getElem?_append_right (by rw [marks_len]; omega), marks_len, List.getElem?_drop, show n + (n + j - n) = n + j by omega]
  simp [List.getD, h]
theorem marks_set (k n : Nat) (cs : List Value) (h : n < cs.length) : (marks k n ++ cs.drop n).set n (.int .i64 ↑(k + n)) = marks k (n + 1) ++ cs.drop (n + 1) := by
  rw [List.drop_eq_getElem_cons h, set_at' (marks_len k n), marks_succ]; simp

theorem bcell {W w1 : World} (hb : Below W.heap.size W w1) : (∀ b o, b < W.heap.size → w1.cell? ⟨b, o, none⟩ = W.cell? ⟨b, o, none⟩) ∧ (∀ b o, b < W.heap.size → w1.frozen? ⟨b, o, none⟩ = W.frozen? ⟨b, o, none⟩) :=
  ⟨fun b o h => hb.cell (p := ⟨b, o, none⟩) h, fun b o h => hb.frozen (p := ⟨b, o, none⟩) h⟩
theorem undrew {B : Nat} {w w' : World} (h : Below B w.drew w') : Below B w w' := ⟨h.os, h.tape, h.output, h.size, h.block⟩
theorem grown_of_below {w w' : World} (h : Below w.heap.size w w') : w.grownBy w' none := ⟨h.os, h.tape, h.output, h.size, fun k hk _ => h.block k hk⟩
theorem below_of_grown {w w' : World} (h : w.grownBy w' none) : Below w.heap.size w w' := ⟨h.os, h.tape, h.output, h.size, fun k hk => h.block k hk (by simp)⟩

theorem ret_bool {a b : Bool} (h : a = b) : Ending.returned (.bool a) = .returned (.bool b) := by rw [h]
theorem ret_int {k : IntKind} {a b : Int} (h : a = b) : Ending.returned (.int k a) = .returned (.int k b) := by rw [h]

theorem ne_of_get {α} [BEq α] [LawfulBEq α] {xs ys : List α} {k : Nat} (h1 : k < xs.length) (h2 : k < ys.length) (h : (xs[k] != ys[k]) = true) : ¬ xs = ys := by
  rintro rfl; simp at h
theorem take_step {α} [BEq α] [LawfulBEq α] {xs ys : List α} {k : Nat} (h1 : k < xs.length) (h2 : k < ys.length) (ht : xs.take k = ys.take k) (h : (xs[k] != ys[k]) = false) : xs.take (k + 1) = ys.take (k + 1) := by
  have : xs[k] = ys[k] := by simpa using h
  rw [List.take_succ_eq_append_getElem h1, List.take_succ_eq_append_getElem h2, ht, this]
theorem eq_of_take {α} {xs ys : List α} {k : Nat} (hl : xs.length = ys.length) (h : ¬ k < xs.length) (ht : xs.take k = ys.take k) : xs = ys := by
  rwa [List.take_of_length_le (by omega), List.take_of_length_le (by omega)] at ht

theorem owns_slice {w : World} {base : Nat} {e : TypeId} {size n : Nat} {v : Value} {cs : List Value} (h : w.ownsRow base e size v n cs) : ∃ a cap, v = .slice a n cap := by
  rcases h.2 with ⟨rfl, rfl⟩ | ⟨g, cap, cur, rfl, _⟩
  · exact ⟨_, _, rfl⟩
  · exact ⟨_, _, rfl⟩

def I64 (n : Int) : Prop := (Lit.int .i64 n).wf = true
theorem I64.bd {n : Int} (h : I64 n) : -9223372036854775808 ≤ n ∧ n ≤ 9223372036854775807 := by simpa [I64, Lit.wf, IntKind.min, IntKind.max, IntKind.signed, IntKind.bits] using h

/-- 'out = append(out, x)', out owned, x laid just ahead: the walk's law. -/
theorem append_one {P : Program} {w : World} {ops : Array Oper} {rest : List Oper} {o : Oper} {a : Act} {Q : Exit → Act → World → Prop} (hgd : o.guard = none) (s x : Operand) (t : TypeId)
    (ho : o.op = .call { callee := .builtin .append, args := #[s, x], argTypes := #[t, t] })
    (base : Nat) (e : TypeId) (z : Value) (size bytes : Nat) (ht : P.underlying t = some (.slice e)) (hi : (P.info? e).map (fun i => (i.zero, i.size, i.bytes)) = some (some z, size, bytes)) (hzs : z.cells.size = size) (hsz : 0 < size)
    (v : Value) (n : Nat) (xs : List Value) (hs : a.eval s = v) (hown : w.ownsRow base e size v n xs) (news : List Value) (hl : news.length = size) (h1 : ∀ u ∈ news, u.oneCell' = true)
    (hx : a.eval x = .slice (some ⟨w.heap.size, 0, none⟩) 1 1) (hn : n ≤ 1000000000) (hbytes : bytes ≤ 1000) (hbase : base ≤ w.heap.size)
    (h : ∀ a' cap' w', w'.ownsRow base e size (.slice a' (n + 1) cap') (n + 1) (xs ++ news) → w.grownBy w' v.ownBlock → Below base w w' → wpList P ops Q rest (Act.put a o.dst (.slice a' (n + 1) cap')) w') :
    wpList P ops Q (o :: rest) a (w.alloc (.cells news.toArray e)) := by
  obtain ⟨i0, hi, hz0, hz1, hz2⟩ := info_parts hi
  have hb2 : (n + 1) * bytes ≤ 140737488355328 := Nat.le_trans (Nat.mul_le_mul (show n + 1 ≤ 1000000001 by omega) hbytes) (by omega)
  refine wpList_append_own _ hgd s x t ho base e i0 z size bytes ht hi hz0 hz1 hz2 hzs hsz v n xs hs (hown.alloc _) ⟨w.heap.size, 0, none⟩ 1 1 news hx (by omega) (fun j u hu => ?_) h1 (by unfold maxLen; omega) hb2 (by simp; omega) (fun v' w' ho' hg' _ => ?_)
  · rw [Addr.add_lit, Nat.zero_add, cell_of_row _ w.heap.size j news.toArray e (0, 0) (heap_alloc_new w _)]
    simpa using hu
  · obtain ⟨a', cap', rfl⟩ : ∃ a' cap', v' = .slice a' (n + 1) cap' := by
      rcases ho'.2 with ⟨rfl, h0⟩ | ⟨g, cap, cur, rfl, _⟩
      · omega
      · exact ⟨_, _, rfl⟩
    have hg2 : w.grownBy w' v.ownBlock := grown_trans (World.grownBy_alloc _ _ _) hg'
    exact h a' cap' w' ho' hg2 ((Below.refl base w).grown hg2 hbase (fun k hk => (hown.lt k hk).1))

/-- Two rows of which the second was made when the first was there: two blocks. -/
theorem owns_apart {w1 w2 : World} {b1 b2 : Nat} {e1 e2 : TypeId} {s1 s2 n1 n2 : Nat} {v1 v2 : Value} {c1 c2 : List Value} (h1 : w1.ownsRow b1 e1 s1 v1 n1 c1) (h2 : w2.ownsRow b2 e2 s2 v2 n2 c2) (hb : w1.heap.size ≤ b2) :
    v1.ownBlock = none ∨ v1.ownBlock ≠ v2.ownBlock := by
  cases hv : v1.ownBlock with
  | none => exact .inl rfl
  | some k =>
    refine .inr fun e => ?_
    have := (h1.lt k hv).2
    have := (h2.lt k e.symm).1
    omega

theorem owns_below_base {w w' : World} {b : Nat} {e : TypeId} {s n : Nat} {v : Value} {cs : List Value} {B : Nat} {W : World} (hb : Below B W w) (h : w.ownsRow b e s v n cs) (hg : w.grownBy w' v.ownBlock) (hB : B ≤ b) (hW : B ≤ w.heap.size) : Below B W w' :=
  hb.grown hg hW (fun k hk => Nat.le_trans hB (h.lt k hk).1)

theorem noB {p : Prop} [Decidable p] (h : ¬ p) : false = decide p := (decide_eq_false h).symm
theorem yesB {p : Prop} [Decidable p] (h : p) : true = decide p := (decide_eq_true h).symm

theorem lt_step {p : Nat → Prop} {k : Nat} (h : ∀ i, i < k → p i) (hp : p k) : ∀ i, i < k + 1 → p i := fun i hi => by
  by_cases e : i = k
  · rw [e]; exact hp
  · exact h i (by omega)

end Go.Proofs.YteaijhmgfddjiaaDoor
