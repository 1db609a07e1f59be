/- A region that draws its order, walked step by step, where blocks from B up to E may be written: what only reads is taken at once, all else forks. No program in sight. -/
import Derived.Test.YteaijhmgfddjiaaDoorReg3
import Derived.Test.YteaijhmgfddjiaaDoorApt
set_option linter.unusedSimpArgs false
set_option linter.unnecessarySimpa false
set_option linter.unusedVariables false
namespace Go.Proofs.YteaijhmgfddjiaaDoor
open Go.RowKit

section
variable {P : Program} {ops : Array Oper} {Q : Exit → Act → World → Prop} {w0 : World} {B E : Nat}

/-- The walk from where 'L' has come up; n operations are left. -/
def wpT (P : Program) (ops : Array Oper) (Q : Exit → Act → World → Prop) (w0 : World) (B E : Nat) (n : Nat) (L : Array Bool) (a : Act) (w : World) : Prop :=
  wpAnyH P .any ops (NoPanic Q) (fun w => Touch B E w0 w) n L a w

theorem wp_region_T {id : Nat} {a : Act} {w : World} {l : List Oper} (B E n : Nat) (hm : P.follows .mixedOrders = true) (hn : l.length = n)
    (h : wpT P l.toArray Q w.drew B E n (Array.replicate n false) a w.drew) : (Code.region id l.toArray true).wp P Q a w := by
  subst hn
  refine wp_region_noPanic (wp_region_any hm ?_)
  unfold wpT at h
  exact wpAny_of_held _ _ _ _ (by simpa using h)

theorem wpT_soft {n : Nat} {L : Array Bool} {a : Act} {w : World} (i : Nat) (hB : (Region.noSelect ops && (Region.ready .any ops L).contains i && Region.free .any ops L i) = true) (hS : Touch B E w0 w)
    (h : ∀ K : Act → Prop, (∀ a, wpT P ops Q w0 B E n (L.setIfInBounds i true) a w → K a) → match ops[i]? with | none => False | some o => if Region.wanted o (yielded ops a.tmps) = true then softT P w0 B E o a K else K (a.put o.dst undef)) : wpT P ops Q w0 B E (n + 1) L a w := by
  simp only [Bool.and_eq_true] at hB
  obtain ⟨⟨hs, hr⟩, hf⟩ := hB
  have h := h _ fun _ h => h
  unfold wpT at h ⊢
  split at h
  · exact h.elim
  · rename_i o ho
    split at h
    · rename_i hw
      obtain ⟨v, h1, h2⟩ := h
      refine wpAnyH_take ho hs hf hr (fun c a w h => (h : False).elim) (.inl ⟨hw, fun w' hw' => ?_⟩) hS h2
      obtain ⟨x, rfl⟩ := extT_of_touch hw'
      exact h1 x
    · rename_i hw
      exact wpAnyH_take ho hs hf hr (fun c a w h => (h : False).elim) (.inr ⟨by simpa using hw, rfl⟩) hS h

theorem wpT_one {n : Nat} {L : Array Bool} {a : Act} {w : World} (i : Nat) (hr : decide (Region.ready .any ops L = [i]) = true)
    (h : match ops[i]? with | none => False | some o => wpList P ops (only (NoPanic Q) fun a' w' => Touch B E w0 w' ∧ wpT P ops Q w0 B E n (L.setIfInBounds i true) a' w') [o] a w) : wpT P ops Q w0 B E (n + 1) L a w := by
  unfold wpT
  refine wpAnyH_all (of_decide_eq_true hr) (by simp) (fun j hj => ?_)
  obtain rfl : j = i := by simpa using hj
  exact wpOp_only h

theorem wpT_two {n : Nat} {L : Array Bool} {a : Act} {w : World} (i j : Nat) (hr : decide (Region.ready .any ops L = [i, j]) = true)
    (h1 : match ops[i]? with | none => False | some o => wpList P ops (only (NoPanic Q) fun a' w' => Touch B E w0 w' ∧ wpT P ops Q w0 B E n (L.setIfInBounds i true) a' w') [o] a w)
    (h2 : match ops[j]? with | none => False | some o => wpList P ops (only (NoPanic Q) fun a' w' => Touch B E w0 w' ∧ wpT P ops Q w0 B E n (L.setIfInBounds j true) a' w') [o] a w) : wpT P ops Q w0 B E (n + 1) L a w := by
  unfold wpT
  refine wpAnyH_all (of_decide_eq_true hr) (by simp) (fun k hk => ?_)
  simp only [List.mem_cons, List.not_mem_nil, or_false] at hk
  rcases hk with rfl | rfl
  · exact wpOp_only h1
  · exact wpOp_only h2

theorem wpT_done {L : Array Bool} {a : Act} {w : World} (hr : decide (Region.ready .any ops L = []) = true) (h : NoPanic Q .normal a w) (n : Nat) : wpT P ops Q w0 B E n L a w := by
  unfold wpT
  cases n with
  | zero => exact ⟨of_decide_eq_true hr, h⟩
  | succ n => exact ⟨fun _ => h, by rw [of_decide_eq_true hr]; simp⟩
end

/-- 'append(row, lit...)', the literal whatever reads as cells: and where the row lies then. -/
theorem append_sl {P : Program} {w : World} {ops : Array Oper} {rest : List Oper} {o : Oper} {a : Act} {Q : Exit → Act → World → Prop} (hgd : o.guard = none) (s x : Operand) (t : TypeId)
    (ho : o.op = .call { callee := .builtin .append, args := #[s, x], argTypes := #[t, t] })
    (base : Nat) (e : TypeId) (z : Value) (size bytes : Nat) (ht : P.underlying t = some (.slice e)) (hi : (P.info? e).map (fun i => (i.zero, i.size, i.bytes)) = some (some z, size, bytes)) (hzs : z.cells.size = size) (hsz : 0 < size)
    (v : Value) (n : Nat) (xs : List Value) (hs : a.eval s = v) (hown : w.ownsRow base e size v n xs)
    (sv : Value) (m : Nat) (news : List Value) (hx : a.eval x = sv) (hr : Sl w sv m news) (hl : news.length = m * size) (h1 : ∀ u ∈ news, u.oneCell' = true) (hn : n + m ≤ 1000000000) (hbytes : bytes ≤ 1000) (hbase : base ≤ w.heap.size)
    (h : ∀ a' cap' w', w'.ownsRow base e size (.slice a' (n + m) cap') (n + m) (xs ++ news) → w.grownBy w' v.ownBlock → Below base w w' → ((Value.slice a' (n + m) cap').ownBlock = v.ownBlock ∨ (Value.slice a' (n + m) cap').ownBlock = some w.heap.size) → wpList P ops Q rest (Act.put a o.dst (.slice a' (n + m) cap')) w') :
    wpList P ops Q (o :: rest) a w := by
  obtain ⟨i0, hi, hz0, hz1, hz2⟩ := info_parts hi
  obtain ⟨A, c, rfl, _, _, _⟩ := id hr
  have hb2 : (n + m) * bytes ≤ 140737488355328 := Nat.le_trans (Nat.mul_le_mul hn hbytes) (by omega)
  obtain ⟨v', w', hrun, h2, h3, h4⟩ := run_append_sl (P := P) w base t o.type e i0 z size bytes ht hi hz0 hz1 hz2 hzs hsz v n xs hown A m c news hr hl h1 (by unfold maxLen; omega) hb2 hbase
  obtain ⟨a', cap', rfl⟩ := owns_slice h2
  refine wpList_plain hgd fun _ hK => ?_
  unfold Oper.wp execOp
  simp only [ho, resolve, invoke, builtin, Sem.run_bind, Sem.run_pure, Result.andThen_ok, List.map_toArray, List.map_cons, List.map_nil, hs, hx, hrun]
  exact hK _ _ (h a' cap' w' h2 h3 ((Below.refl base w).grown h3 hbase (fun k hk => (hown.lt k hk).1)) h4)
theorem Apt.next' {v v' o : Value} {H : Nat} (ha : Apt v o) (hv : v'.ownBlock = v.ownBlock ∨ v'.ownBlock = some H) (ho : ∀ k, o.ownBlock = some k → k < H) : Apt v' o := by
  rcases hv with h | h
  · rcases ha with g | g | g
    · exact .inl (h.trans g)
    · exact .inr (.inl g)
    · exact .inr (.inr (by rw [h]; exact g))
  · cases hb : o.ownBlock with
    | none => exact .inr (.inl hb)
    | some k =>
      refine .inr (.inr ?_)
      have := ho k hb
      rw [h, hb]
      simp only [ne_eq, Option.some.injEq]
      omega
theorem Sl.keepG {w w' : World} {q m c : Nat} {cs : List Value} {row : Option Nat} (h : Sl w (.slice (some ⟨q, 0, none⟩) m c) m cs) (hg : w.grownBy w' row) (hr : row ≠ some q) : Sl w' (.slice (some ⟨q, 0, none⟩) m c) m cs := by
  obtain ⟨a, cap, e, h1, h2, h3⟩ := h
  cases e
  refine ⟨_, _, rfl, h1, h2, fun j u hu => ?_⟩
  obtain ⟨b, off, e, hc⟩ := h3 j u hu
  cases e
  exact ⟨_, _, rfl, (World.cell?_of_block (w := w) (hg.block q (World.block_lt_of_cell? w _ hc) (fun e => hr e.symm))).trans hc⟩
/-- A slice literal that was just laid. -/
theorem sl_lit (w : World) (cs : List Value) (e : TypeId) (n H : Nat) (hH : w.heap.size = H) (hn : n ≤ maxLen) : Sl (w.alloc (.cells cs.toArray e)) (.slice (some ⟨H, 0, none⟩) n n) n cs := by
  subst hH
  exact ⟨_, _, rfl, Nat.le_refl _, hn, fun j u hu => ⟨_, _, rfl, by
    rw [Nat.zero_add, cell_of_row _ w.heap.size j cs.toArray e (0, 0) (heap_alloc_new w _)]
    simpa using hu⟩⟩

end Go.Proofs.YteaijhmgfddjiaaDoor
