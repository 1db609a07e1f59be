import Derived.Test.YtenedpboehkmjaaGreatSpZ1
import Derived.Maps.AppendAt
import Derived.Deep.AppendLies
import Derived.Test.YtenedpboehkmjaaGreatChecked
import Derived.Deep.QuietTactic
import Derived.BigQuiet
/- 'append(dst, src...)' onto a row of the call's own, the source whatever reads as cells. No program in sight. -/
set_option linter.unusedSimpArgs false
set_option linter.unnecessarySimpa false
set_option linter.unusedVariables false
namespace Go.Proofs.YtenedpboehkmjaaGreat
open Go.RowKit

theorem run_append_nil {P : Program} (w : World) (base : Nat) (t ty e : TypeId) (i : TypeInfo) (size : Nat) (ht : P.underlying t = some (.slice e)) (hi : P.info? e = some i)
    (v : Value) (n : Nat) (xs : List Value) (hown : w.ownsRow base e size v n xs) (c : Nat) : (Builtin.append_ #[t, t] ty #[v, .slice none 0 c]).run P w = .ok v w := by
  rcases hown.2 with ⟨rfl, rfl⟩ | ⟨g, cap, cur, rfl, _, _, hnc, _⟩
  · simp [Builtin.append_, run_underlying ht, sizeOf, typeInfo, hi, Builtin.lenOf, Builtin.firstCells]
  · simp [Builtin.append_, run_underlying ht, sizeOf, typeInfo, hi, Builtin.lenOf, Builtin.firstCells, hnc, storeCells]

theorem run_append_sl {P : Program} (w : World) (base : Nat) (t ty e : TypeId) (i : TypeInfo) (z : Value) (size bytes : Nat) (ht : P.underlying t = some (.slice e)) (hi : P.info? e = some i) (hz : i.zero = some z)
    (hsize : i.size = size) (hby : i.bytes = bytes) (hzs : z.cells.size = size) (hsz : 0 < size)
    (v : Value) (n : Nat) (xs : List Value) (hown : w.ownsRow base e size v n xs)
    (A : Option Addr) (m c : Nat) (news : List Value) (hr : Sl w (.slice A m c) m news) (hl : news.length = m * size) (h1 : ∀ u ∈ news, u.oneCell' = true)
    (h63 : n + m ≤ maxLen) (hbytes : (n + m) * bytes ≤ 140737488355328) (hbase : base ≤ w.heap.size) :
    ∃ v' w', (Builtin.append_ #[t, t] ty #[v, .slice A m c]).run P w = .ok v' w' ∧ w'.ownsRow base e size v' (n + m) (xs ++ news) ∧ w.grownBy w' v.ownBlock ∧ (v'.ownBlock = v.ownBlock ∨ v'.ownBlock = some w.heap.size) := by
  obtain ⟨a0, cap, e0, _, _, hc⟩ := hr
  cases e0
  rcases A with _ | ad
  · have hn : news = [] := by
      rcases news with _ | ⟨u, r⟩
      · rfl
      · obtain ⟨_, _, h, _⟩ := hc 0 u rfl
        cases h
    subst hn
    have hm : m = 0 := by
      rcases Nat.eq_zero_or_pos m with h0 | h0
      · exact h0
      · have := Nat.mul_pos h0 hsz; simp at hl; omega
    subst hm
    exact ⟨v, w, run_append_nil w base t ty e i size ht hi v n xs hown c, by simpa using hown, World.grownBy.refl w _, .inl rfl⟩
  · have hcells : ∀ j u, news[j]? = some u → w.cell? (ad.add j) = some u := by
      intro j u hu
      obtain ⟨b, off, h, hc'⟩ := hc j u hu
      cases h
      rw [Addr.add_lit]; exact hc'
    obtain ⟨v', w', hrun, h2, h3, _, h5⟩ := run_append_own_at (P := P) w base t ty e i z size bytes ht hi hz hsize hby hzs hsz v n xs hown ad m c news hl hcells h1 h63 hbytes hbase
    exact ⟨v', w', hrun, h2, h3, h5⟩

theorem append_all {P : Program} {w : World} {ops : Array Oper} {rest : List Oper} {o : Oper} {a : Act} {Q : Exit → Act → World → Prop} (hgd : o.guard = none) (s x : Operand) (t : TypeId)
    (ho : o.op = .call { callee := .builtin .append, args := #[s, x], argTypes := #[t, t] })
    (base : Nat) (e : TypeId) (z : Value) (size bytes : Nat) (ht : P.underlying t = some (.slice e)) (hi : (P.info? e).map (fun i => (i.zero, i.size, i.bytes)) = some (some z, size, bytes)) (hzs : z.cells.size = size) (hsz : 0 < size)
    (v : Value) (n : Nat) (xs : List Value) (hs : a.eval s = v) (hown : w.ownsRow base e size v n xs)
    (sv : Value) (m : Nat) (news : List Value) (hx : a.eval x = sv) (hr : Sl w sv m news) (hl : news.length = m * size) (h1 : ∀ u ∈ news, u.oneCell' = true) (hn : n + m ≤ 1000000000) (hbytes : bytes ≤ 1000) (hbase : base ≤ w.heap.size)
    (h : ∀ a' cap' w', w'.ownsRow base e size (.slice a' (n + m) cap') (n + m) (xs ++ news) → w.grownBy w' v.ownBlock → Below base w w' → wpList P ops Q rest (Act.put a o.dst (.slice a' (n + m) cap')) w') :
    wpList P ops Q (o :: rest) a w := by
  obtain ⟨i0, hi, hz0, hz1, hz2⟩ := info_parts hi
  obtain ⟨A, c, rfl, _, _, _⟩ := id hr
  have hb2 : (n + m) * bytes ≤ 140737488355328 := Nat.le_trans (Nat.mul_le_mul hn hbytes) (by omega)
  obtain ⟨v', w', hrun, h2, h3, h4⟩ := run_append_sl (P := P) w base t o.type e i0 z size bytes ht hi hz0 hz1 hz2 hzs hsz v n xs hown A m c news hr hl h1 (by unfold maxLen; omega) hb2 hbase
  obtain ⟨a', cap', rfl⟩ := owns_slice h2
  refine wpList_plain hgd fun _ hK => ?_
  unfold Oper.wp execOp
  simp only [ho, resolve, invoke, builtin, Sem.run_bind, Sem.run_pure, Result.andThen_ok, List.map_toArray, List.map_cons, List.map_nil, hs, hx, hrun]
  exact hK _ _ (h a' cap' w' h2 h3 ((Below.refl base w).grown h3 hbase (fun k hk => (hown.lt k hk).1)))

theorem OwnRow.setCell {B E : Nat} {w : World} {e : TypeId} {size n : Nat} {v : Value} {cs : List Value} (h : OwnRow B E w e size v n cs) {p : Addr} (hp : p.block < B) (u : Value) : OwnRow B E (w.setCell p u) e size v n cs := ⟨ownsRow_setCell_below h.1 hp u, h.2⟩

theorem cellL {B : Nat} {w w' : World} {p : Addr} {v : Value} (hb : Below B w w') (hp : p.block < B) (h : w.cell? p = some v) : w'.cell? p = some v := (hb.cell hp).trans h
theorem frozenL {B : Nat} {w w' : World} {p : Addr} {v : Bool} (hb : Below B w w') (hp : p.block < B) (h : w.frozen? p = v) : w'.frozen? p = v := (hb.frozen hp).trans h

theorem Touch.refl (B E : Nat) (w : World) : Touch B E w w := ⟨rfl, rfl, rfl, Nat.le_refl _, fun _ _ _ => rfl⟩
theorem Touch.trans {B E : Nat} {a b c : World} (h : Touch B E a b) (k : Touch B E b c) : Touch B E a c :=
  ⟨k.os.trans h.os, k.tape.trans h.tape, k.output.trans h.output, Nat.le_trans h.size k.size, fun i hi hr => (k.block i (Nat.lt_of_lt_of_le hi h.size) hr).trans (h.block i hi hr)⟩
theorem Touch.setCell {B E : Nat} {a w : World} (h : Touch B E a w) {p : Addr} (hp : B ≤ p.block ∧ p.block < E) (u : Value) : Touch B E a (w.setCell p u) :=
  h.trans ⟨rfl, rfl, rfl, by simp [World.setCell], fun k hk hr => Below.heap_setCell _ _ _ _ (by omega)⟩
theorem Touch.setNew {B E : Nat} {a w : World} (h : Touch B E a w) {p : Addr} (hp : a.heap.size ≤ p.block) (u : Value) : Touch B E a (w.setCell p u) :=
  ⟨h.os, h.tape, h.output, by have := h.size; simpa [World.setCell] using this, fun k hk hr => (Below.heap_setCell _ _ _ _ (by omega)).trans (h.block k hk hr)⟩
theorem Touch.alloc {B E : Nat} {a w : World} (h : Touch B E a w) (o : Obj) : Touch B E a (w.alloc o) := h.trans ⟨rfl, rfl, rfl, by simp, fun k hk _ => Below.heap_alloc _ _ _ (by omega)⟩
theorem Touch.drew {B E : Nat} {a w : World} (h : Touch B E a w) : Touch B E a w.drew := h.trans ⟨rfl, rfl, rfl, Nat.le_refl _, fun _ _ _ => rfl⟩
theorem Touch.drewN {B E : Nat} {a w : World} (h : Touch B E a w) (n : Nat) : Touch B E a (w.drewN n) := h.trans ⟨rfl, rfl, rfl, Nat.le_refl _, fun _ _ _ => rfl⟩
theorem Touch.step {B E b : Nat} {a w w' : World} (h : Touch B E a w) (k : Below b w w') (hb : a.heap.size ≤ b) : Touch B E a w' := ⟨k.os.trans h.os, k.tape.trans h.tape, k.output.trans h.output, Nat.le_trans h.size k.size, fun i hi hr => (k.block i (by omega)).trans (h.block i hi hr)⟩

/-- 'append_one', and where the row lies then. -/
theorem append_one_at {P : Program} {w : World} {ops : Array Oper} {rest : List Oper} {o : Oper} {a : Act} {Q : Exit → Act → World → Prop} (hgd : o.guard = none) (s x : Operand) (t : TypeId)
    (ho : o.op = .call { callee := .builtin .append, args := #[s, x], argTypes := #[t, t] })
    (base : Nat) (e : TypeId) (z : Value) (size bytes : Nat) (ht : P.underlying t = some (.slice e)) (hi : (P.info? e).map (fun i => (i.zero, i.size, i.bytes)) = some (some z, size, bytes)) (hzs : z.cells.size = size) (hsz : 0 < size)
    (v : Value) (n : Nat) (xs : List Value) (hs : a.eval s = v) (hown : w.ownsRow base e size v n xs) (news : List Value) (hl : news.length = size) (h1 : ∀ u ∈ news, u.oneCell' = true)
    (H : Nat) (hH : w.heap.size = H) (hx : a.eval x = .slice (some ⟨H, 0, none⟩) 1 1) (hn : n ≤ 1000000000) (hbytes : bytes ≤ 1000) (hbase : base ≤ w.heap.size)
    (h : ∀ a' cap' w', w'.ownsRow base e size (.slice a' (n + 1) cap') (n + 1) (xs ++ news) → w.grownBy w' v.ownBlock → Below base w w' → ((Value.slice a' (n + 1) cap').ownBlock = v.ownBlock ∨ (Value.slice a' (n + 1) cap').ownBlock = some (H + 1)) → wpList P ops Q rest (Act.put a o.dst (.slice a' (n + 1) cap')) w') :
    wpList P ops Q (o :: rest) a (w.alloc (.cells news.toArray e)) := by
  subst hH
  obtain ⟨i0, hi, hz0, hz1, hz2⟩ := info_parts hi
  have hb2 : (n + 1) * bytes ≤ 140737488355328 := Nat.le_trans (Nat.mul_le_mul (show n + 1 ≤ 1000000001 by omega) hbytes) (by omega)
  have hr : Sl (w.alloc (.cells news.toArray e)) (.slice (some ⟨w.heap.size, 0, none⟩) 1 1) 1 news := ⟨_, _, rfl, Nat.le_refl _, by simp [maxLen], fun j u hu => ⟨_, _, rfl, by
    rw [Nat.zero_add, cell_of_row _ w.heap.size j news.toArray e (0, 0) (heap_alloc_new w _)]
    simpa using hu⟩⟩
  obtain ⟨v', w', hrun, h2, h3, h4⟩ := run_append_sl (P := P) (w.alloc (.cells news.toArray e)) base t o.type e i0 z size bytes ht hi hz0 hz1 hz2 hzs hsz v n xs (hown.alloc _) (some ⟨w.heap.size, 0, none⟩) 1 1 news hr (by omega) h1 (by unfold maxLen; omega) hb2 (by simp; omega)
  obtain ⟨a', cap', rfl⟩ := owns_slice h2
  have hg2 : w.grownBy w' v.ownBlock := grown_trans (World.grownBy_alloc _ _ _) h3
  refine wpList_plain hgd fun _ hK => ?_
  unfold Oper.wp execOp
  simp only [ho, resolve, invoke, builtin, Sem.run_bind, Sem.run_pure, Result.andThen_ok, List.map_toArray, List.map_cons, List.map_nil, hs, hx, hrun]
  exact hK _ _ (h a' cap' w' h2 hg2 ((Below.refl base w).grown hg2 hbase (fun k hk => (hown.lt k hk).1)) (by simpa using h4))

theorem ret_vi {v : Value} {a b : Int} (h : a = b) : Ending.returned (.tuple #[v, .int .i64 a]) = .returned (.tuple #[v, .int .i64 b]) := by rw [h]
/-- An empty row that was just laid. -/
theorem owns_empty (w : World) (e : TypeId) (size base : Nat) (h : base ≤ w.heap.size) : (w.alloc (.cells #[] e)).ownsRow base e size (.slice (some ⟨w.heap.size, 0, none⟩) 0 0) 0 [] :=
  ⟨by simp, .inr ⟨w.heap.size, 0, #[], rfl, h, heap_alloc_new w _, Nat.le_refl _, by simp [maxLen], by simp, by simp⟩⟩
theorem owns_nil (w : World) (e : TypeId) (size base : Nat) : w.ownsRow base e size (.slice none 0 0) 0 [] := ⟨by simp, .inl ⟨rfl, rfl⟩⟩

end Go.Proofs.YtenedpboehkmjaaGreat
/- The row of int64 in the table of types. -/
set_option linter.unusedSimpArgs false
set_option linter.unnecessarySimpa false
set_option linter.unusedVariables false
namespace Go.Proofs.YtenedpboehkmjaaGreat
open Go.RowKit

theorem info_int : (Tryz.prog.info? 2).map (fun i => (i.zero, i.size, i.bytes)) = some (some (.int .i64 0), 1, 8) := by kernel_rfl

end Go.Proofs.YtenedpboehkmjaaGreat
/- The laws' helpers over slices of numbers, in the form that the laws' walks take. -/
set_option linter.unusedSimpArgs false
set_option linter.unnecessarySimpa false
set_option linter.unusedVariables false
namespace Go.Proofs.YtenedpboehkmjaaGreat
open Go.RowKit

def RdInts (w : World) (v : Value) (xs : List Int) : Prop := Ints w v xs
def OwnInts (B E : Nat) (w : World) (v : Value) (xs : List Int) : Prop := OwnRow B E w 2 1 v xs.length (xs.map (Value.int .i64))
def MkInts (B E : Nat) (w : World) (v : Value) (xs : List Int) (k : Int) : Prop := OwnRow B E w 2 1 v xs.length (marksI k (xs.length * 1))
section
variable {B E B' E' : Nat} {w w' : World} {v : Value} {xs : List Int} {k : Int}
theorem RdInts.mono (h : RdInts w v xs) (hb : Below w.heap.size w w') : RdInts w' v xs := Ints.mono h hb
theorem OwnInts.mono (h : OwnInts B E w v xs) (hb : Below w.heap.size w w') : OwnInts B E w' v xs := OwnRow.mono h hb
theorem OwnInts.touch (h : OwnInts B E w v xs) (t : Touch B' E' w w') (hd : E ≤ B' ∨ E' ≤ B) : OwnInts B E w' v xs := OwnRow.touch h t hd
theorem OwnInts.rd (h : OwnInts B E w v xs) : RdInts w v xs := OwnRow.sl h
theorem OwnInts.form (h : OwnInts B E w v xs) : ∃ a cap, v = .slice a xs.length cap := OwnRow.form h
theorem OwnInts.wide (h : OwnInts B E w v xs) (hB : B' ≤ B) (hE : E ≤ E') : OwnInts B' E' w v xs := OwnRow.wide h hB hE
theorem OwnInts.nil (B E : Nat) (w : World) : OwnInts B E w (.slice none 0 0) [] := ⟨World.ownsRow_nil _ _ _ _, fun k hk => by simp [Value.ownBlock] at hk⟩
theorem OwnInts.mk' (h : w.ownsRow B 2 1 v xs.length (xs.map (Value.int .i64))) : OwnInts B w.heap.size w v xs := OwnRow.mk' h
theorem MkInts.mono (h : MkInts B E w v xs k) (hb : Below w.heap.size w w') : MkInts B E w' v xs k := OwnRow.mono h hb
theorem MkInts.touch (h : MkInts B E w v xs k) (t : Touch B' E' w w') (hd : E ≤ B' ∨ E' ≤ B) : MkInts B E w' v xs k := OwnRow.touch h t hd
end

end Go.Proofs.YtenedpboehkmjaaGreat
/- Contracts of the laws' helpers over slices of numbers: copy and equality. -/
set_option linter.unusedSimpArgs false
set_option linter.unnecessarySimpa false
set_option linter.unusedVariables false
namespace Go.Proofs.YtenedpboehkmjaaGreat
open Go.RowKit

set_option maxHeartbeats 400000 in
theorem eqInts_any (v1 v2 : Value) (xs ys : List Int) (w : World) (h1 : Ints w v1 xs) (h2 : Ints w v2 ys) :
    Calls Tryz.prog 35 #[v1, v2] w fun e w' => e = .returned (.bool (decide (xs = ys))) ∧ Q w w' := by
  obtain ⟨a, ca, rfl, hca, hcm, _⟩ := id h1
  obtain ⟨b, cb, rfl, _, _, _⟩ := id h2
  by_cases hl : xs.length = ys.length
  · have hm : xs.length ≤ maxLen := by omega
    clear hca hcm
    unfold maxLen at hm
    have hl1 : ((xs.length : Int) != (ys.length : Int)) = false := by rw [hl]; simp
    have HL := Lib.hid hl; clear hl
    go_enter Tryz.func35, Tryz.ntmps35
    go_wp2
    go_loopw [5] (fun i wr => ∃ k : Nat, k ≤ xs.length ∧ i = .int .i64 k ∧ xs.take k = ys.take k ∧ Q w wr) (fun i _ => xs.length - (intOf i).toNat)
    case atStart => exact ⟨0, Nat.zero_le _, rfl, by simp, Q.refl _⟩
    case round =>
      obtain ⟨k, hk, rfl, ht, hq⟩ := hrel
      by_cases hlt : k < xs.length
      · obtain ⟨b1, o1, rfl, c1⟩ := (h1.q hq).cells (by simp; omega)
        obtain ⟨b2, o2, rfl, c2⟩ := (h2.q hq).cells (by simp; rw [← HL.out]; omega)
        have d1 : wr.cell? ⟨b1, o1 + k, none⟩ = some (.int .i64 xs[k]) := c1 k _ (by simp [hlt])
        have hk2 : k < ys.length := by rw [← HL.out]; exact hlt
        have d2 : wr.cell? ⟨b2, o2 + k, none⟩ = some (.int .i64 ys[k]) := c2 k _ (by simp [hk2])
        clear c1 c2
        go_wp2
        go_quiet (fail)
        go_wp2
        · have hne : (xs[k] != ys[k]) = true := by assumption
          go_ret
          exact ⟨ret_bool (by simpa using ne_of_get hlt hk2 hne), hq.drewN _⟩
        · have heq : (xs[k] != ys[k]) = false := by assumption
          go_roundw
          case rel => exact ⟨k + 1, by omega, by go_num, take_step hlt hk2 ht heq, hq.drewN _⟩
          case measure => simp [intOf]; omega
      · go_wp2
        go_ret
        exact ⟨ret_bool (by simpa using eq_of_take HL.out hlt ht), hq⟩
  · have hl1 : ((xs.length : Int) != (ys.length : Int)) = true := by simp; omega
    have hne : xs ≠ ys := fun e => hl (by rw [e])
    clear hl
    go_enter Tryz.func35, Tryz.ntmps35
    go_wp2
    go_ret
    exact ⟨ret_bool (by simpa using hne), Q.refl _⟩

end Go.Proofs.YtenedpboehkmjaaGreat
/- The laws' equality of slices of numbers, in the form that the laws' walks take. -/
set_option linter.unusedSimpArgs false
set_option linter.unnecessarySimpa false
set_option linter.unusedVariables false
namespace Go.Proofs.YtenedpboehkmjaaGreat
open Go.RowKit

theorem eqIntsK (v1 v2 : Value) (xs : List Int) (w : World) (h1 : RdInts w v1 xs) (h2 : RdInts w v2 xs) :
    Calls Tryz.prog 35 #[v1, v2] w fun e w' => e = .returned (.bool true) ∧ Below w.heap.size w w' :=
  (eqInts_any v1 v2 xs xs w h1 h2).mono fun e w' ⟨he, hq⟩ => ⟨by rw [he]; simp, hq.below _⟩

end Go.Proofs.YtenedpboehkmjaaGreat
/- The contract of the laws' copy of a slice of numbers. -/
set_option linter.unusedSimpArgs false
set_option linter.unnecessarySimpa false
set_option linter.unusedVariables false
namespace Go.Proofs.YtenedpboehkmjaaGreat
open Go.RowKit



/-- The cells of a copy of numbers, k of them filled. -/
def part (xs : List Int) (k : Nat) : List Value := (xs.take k).map (Value.int .i64) ++ List.replicate (xs.length - k) (.int .i64 0)
theorem part_zero (xs : List Int) : part xs 0 = List.replicate xs.length (.int .i64 0) := by simp [part]
theorem part_all (xs : List Int) (k : Nat) (h : ¬ k < xs.length) : part xs k = xs.map (Value.int .i64) := by
  simp [part, List.take_of_length_le (show xs.length ≤ k by omega), show xs.length - k = 0 by omega]
theorem part_set (xs : List Int) (k : Nat) (h : k < xs.length) : (part xs k).set k (.int .i64 xs[k]) = part xs (k + 1) := by
  unfold part
  rw [List.take_succ_eq_append_getElem h, List.set_append_right _ _ (by simp; omega), show xs.length - k = (xs.length - (k + 1)) + 1 by omega, List.replicate_succ]
  simp only [List.length_map, List.length_take, Nat.min_eq_left (Nat.le_of_lt h), Nat.sub_self, List.set_cons_zero, List.map_append, List.map_cons, List.map_nil, List.append_assoc, List.singleton_append]

theorem part_at (xs : List Int) (k : Nat) (h : k < xs.length) : (part xs k)[k]? = some (.int .i64 0) := by
  unfold part
  rw [List.getElem?_append_right (by simp; omega)]
  simp [Nat.min_eq_left (Nat.le_of_lt h), List.getElem?_replicate]; omega

set_option maxHeartbeats 400000 in
theorem toInts_any (v1 : Value) (xs : List Int) (w : World) (h1 : Ints w v1 xs) (hs : xs.length ≤ 1048576) :
    Calls Tryz.prog 24 #[v1] w fun e w' => ∃ v, e = .returned v ∧ w'.ownsRow w.heap.size 2 1 v xs.length (xs.map (Value.int .i64)) ∧ Below w.heap.size w w' := by
  obtain ⟨a, ca, rfl, _, _, _⟩ := id h1
  obtain ⟨i0, hi, hz0, hz1, hz2⟩ := info_parts info_int
  have HS := Lib.hid hs; clear hs
  go_enter Tryz.func24, Tryz.ntmps24
  go_wp2_with (at_make; refine wpList_make_full _ rfl _ _ 22 rfl w.heap.size 2 i0 (.int .i64 0) 1 Tryz.underlying22 hi hz0 hz1 _ _ _ _ xs.length rfl rfl rfl rfl (by rw [hz2]; have := HS.out; omega) (by have := HS.out; unfold maxLen; omega) (Nat.le_refl _) ?_)
  intro w1 hown hgrow
  have hb1 : Below w.heap.size w w1 := (Below.refl _ _).grown hgrow (Nat.le_refl _) (by simp)
  go_wp2
  go_loopw [4] (fun i wr => ∃ k : Nat, k ≤ xs.length ∧ i = .int .i64 k ∧ wr.ownsRow w.heap.size 2 1 (.slice (some ⟨w.heap.size, 0, none⟩) xs.length xs.length) xs.length (part xs k) ∧ Below w.heap.size w wr) (fun i _ => xs.length - (intOf i).toNat)
  case atStart => exact ⟨0, Nat.zero_le _, rfl, by rw [part_zero]; simpa [toList_madeCells_one, Value.cells] using hown, hb1⟩
  case round =>
    obtain ⟨k, hk, rfl, ho, hb⟩ := hrel
    clear hown hgrow hb1
    by_cases hlt : k < xs.length
    · obtain ⟨b1, o1, rfl, c1⟩ := (h1.mono hb).cells (by simp; omega)
      have d1 : wr.cell? ⟨b1, o1 + k, none⟩ = some (.int .i64 xs[k]) := c1 k _ (by simp [hlt])
      have d2 : wr.cell? ⟨w.heap.size, k, none⟩ = some (.int .i64 0) := by rw [ho.cellAt k (by omega)]; exact part_at xs k hlt
      have d3 := ho.frozenAt k
      clear c1
      have hm : xs.length ≤ 1048576 := HS.out
      go_wp2
      have e := ho.stored k (.int .i64 xs[k])
      rw [part_set xs k hlt] at e
      exact ⟨⟨k + 1, by omega, by go_num, e.1, hb.setCell (Nat.le_refl _) _⟩, by simp [intOf]; omega⟩
    · go_wp2
      go_ret
      exact ⟨_, rfl, by rw [← part_all xs k hlt]; exact ho, hb⟩

end Go.Proofs.YtenedpboehkmjaaGreat
/- The laws' copy of a slice of numbers, in the form that the laws' walks take. -/
set_option linter.unusedSimpArgs false
set_option linter.unnecessarySimpa false
set_option linter.unusedVariables false
namespace Go.Proofs.YtenedpboehkmjaaGreat
open Go.RowKit

theorem toIntsK (v : Value) (xs : List Int) (w : World) (h : RdInts w v xs) (hs : xs.length ≤ 1048576) :
    Calls Tryz.prog 24 #[v] w fun e w' => ∃ v', e = .returned v' ∧ OwnInts w.heap.size w'.heap.size w' v' xs ∧ Below w.heap.size w w' :=
  (toInts_any v xs w h hs).mono fun e w' ⟨v', he, ho, hb⟩ => ⟨v', he, OwnRow.mk' ho, hb⟩

end Go.Proofs.YtenedpboehkmjaaGreat
/- Words and contracts of the laws' helpers over a slice of slices of numbers: size, equality, copy. -/
set_option linter.unusedSimpArgs false
set_option linter.unnecessarySimpa false
set_option linter.unusedVariables false
set_option maxRecDepth 100000
namespace Go.Proofs.YtenedpboehkmjaaGreat
open Go.RowKit

/-- A row of rows: each one's slice value beside the numbers that it reads as. -/
def RdIntss (w : World) (v : Value) (xs : List (List Int)) : Prop := ∃ ys : List (Value × List Int), ys.map Prod.snd = xs ∧ Sl w v ys.length (ys.map Prod.fst) ∧ ∀ y ∈ ys, Ints w y.1 y.2
def okIntss (xs : List (List Int)) : Prop := ∀ x ∈ xs, ∀ n ∈ x, I64 n

section
variable {w w' : World} {v : Value} {xs : List (List Int)}
theorem RdIntss.mono (h : RdIntss w v xs) (hb : Below w.heap.size w w') : RdIntss w' v xs := by
  obtain ⟨ys, e, h1, h2⟩ := h
  exact ⟨ys, e, h1.mono hb, fun y hy => (h2 y hy).mono hb⟩
theorem RdIntss.form' (h : RdIntss w v xs) : ∃ a cap, v = .slice a xs.length cap ∧ xs.length ≤ cap ∧ xs.length ≤ maxLen := by
  obtain ⟨ys, rfl, ⟨a, cap, rfl, h1, h2, _⟩, _⟩ := h
  exact ⟨a, cap, by simp, by simp; omega, by simp; omega⟩
theorem RdIntss.form (h : RdIntss w v xs) : ∃ a cap, v = .slice a xs.length cap := by
  obtain ⟨a, cap, e, _⟩ := h.form'
  exact ⟨a, cap, e⟩
theorem RdIntss.at {a : Option Addr} {cap k : Nat} (h : RdIntss w (.slice a xs.length cap) xs) (hk : k < xs.length) :
    ∃ b off lv ca, a = some ⟨b, off, none⟩ ∧ b < w.heap.size ∧ w.cell? ⟨b, off + k, none⟩ = some (.slice lv xs[k].length ca) ∧ Ints w (.slice lv xs[k].length ca) xs[k] := by
  obtain ⟨ys, rfl, h1, h2⟩ := h
  have hk' : k < ys.length := by simpa using hk
  rw [List.length_map] at h1
  obtain ⟨b, off, rfl, hc⟩ := Sl.cells h1 (by simp; omega)
  have h0 := hc k ys[k].1 (by simp [hk'])
  have hi := h2 ys[k] (List.getElem_mem hk')
  obtain ⟨lv, ca, e, _⟩ := id hi
  refine ⟨b, off, lv, ca, rfl, World.block_lt_of_cell? w _ h0, ?_, ?_⟩
  · rw [h0, e]; simp
  · rw [e] at hi; simpa using hi
theorem RdIntss.take {a : Option Addr} {cap k : Nat} (h : RdIntss w (.slice a xs.length cap) xs) (hk : k ≤ xs.length) : RdIntss w (.slice a k cap) (xs.take k) := by
  obtain ⟨ys, rfl, ⟨a', c', e, h1, h2, h3⟩, h4⟩ := h
  simp only [Value.slice.injEq] at e
  obtain ⟨rfl, _, rfl⟩ := e
  rw [List.length_map] at hk
  refine ⟨ys.take k, by rw [List.map_take], ⟨_, _, by rw [List.length_take, Nat.min_eq_left hk], by rw [List.length_take]; omega, h2, fun j u hu => h3 j u ?_⟩, fun y hy => h4 y (List.mem_of_mem_take hy)⟩
  rw [List.map_take, List.getElem?_take] at hu
  split at hu
  · exact hu
  · cases hu
end

/-- How many numbers the first k rows have. -/
def lenSum (xs : List (List Int)) : Nat → Nat
  | 0 => 0
  | k + 1 => lenSum xs k + (xs[k]?.map List.length).getD 0
theorem lenSum_step {xs : List (List Int)} {k : Nat} (h : k < xs.length) : lenSum xs (k + 1) = lenSum xs k + xs[k].length := by simp [lenSum, h]
theorem lenSum_mono (xs : List (List Int)) (k j : Nat) : lenSum xs k ≤ lenSum xs (k + j) := by
  induction j with
  | zero => exact Nat.le_refl _
  | succ j ih => exact Nat.le_trans ih (by rw [← Nat.add_assoc]; simp [lenSum])
theorem lenSum_le {xs : List (List Int)} {k : Nat} (h : k ≤ xs.length) : lenSum xs k ≤ lenSum xs xs.length := by
  have := lenSum_mono xs k (xs.length - k)
  rwa [show k + (xs.length - k) = xs.length by omega] at this
/-- The size of rows, as the laws count it. -/
def szIntss (xs : List (List Int)) : Nat := xs.length + lenSum xs xs.length
theorem szIntss_at {xs : List (List Int)} {k : Nat} (h : k < xs.length) : xs[k].length ≤ szIntss xs := by
  have := lenSum_le (xs := xs) (k := k + 1) (by omega)
  rw [lenSum_step h] at this
  unfold szIntss; omega
theorem szIntss_len (xs : List (List Int)) : xs.length ≤ szIntss xs := by unfold szIntss; omega

theorem szInts_any (v : Value) (x : List Int) (o left : Int) (w : World) (h : Ints w v x) (h0 : 0 ≤ left) (hl : left ≤ 1048576) (ho : o = if left < x.length then -1 else left - x.length) :
    Calls Tryz.prog 18 #[v, .int .i64 left] w fun e w' => e = .returned (.int .i64 o) ∧ w' = w := by
  obtain ⟨a, ca, rfl, h1, h2, _⟩ := id h
  have hm : x.length ≤ maxLen := by omega
  unfold maxLen at hm
  clear h1 h2
  by_cases g : left < x.length
  · have e1 : left - (x.length : Int) < 0 := by omega
    rw [if_pos g] at ho
    subst ho
    go_enter Tryz.func18, Tryz.ntmps18
    go_wp2
    go_ret
    exact ⟨rfl, rfl⟩
  · have e1 : ¬ left - (x.length : Int) < 0 := by omega
    rw [if_neg g] at ho
    subst ho
    go_enter Tryz.func18, Tryz.ntmps18
    go_wp2
    go_ret
    exact ⟨rfl, rfl⟩

set_option maxHeartbeats 1000000 in
theorem szIntssY (v : Value) (x : List (List Int)) (left : Int) (w : World) (h : RdIntss w v x) (_ : okIntss x) (h0 : 0 ≤ left) (hl : left ≤ 1048576) (hs : szIntss x ≤ left) :
    Calls Tryz.prog 19 #[v, .int .i64 left] w fun e w' => e = .returned (.int .i64 (left - szIntss x)) ∧ Below w.heap.size w w' := by
  obtain ⟨a, ca, rfl, _, hm⟩ := h.form'
  unfold maxLen at hm
  have hsl := szIntss_len x
  have e1 : ¬ left - (x.length : Int) < 0 := by omega
  go_enter Tryz.func19, Tryz.ntmps19
  go_wp2_with fail
  go_loopw [1, 5] (fun l i wr => ∃ k : Nat, k ≤ x.length ∧ i = .int .i64 k ∧ l = .int .i64 (left - x.length - lenSum x k) ∧ Below w.heap.size w wr) (fun _ i _ => x.length - (intOf i).toNat)
  case atStart => exact ⟨0, Nat.zero_le _, rfl, by simp [lenSum], Below.refl _ _⟩
  case round =>
    obtain ⟨k, hk, rfl, rfl, hb⟩ := hrel
    by_cases hlt : k < x.length
    · obtain ⟨b1, o1, lv, c1, rfl, hB, c0, hv⟩ := (h.mono hb).at hlt
      have s1 := lenSum_step hlt
      have s2 := lenSum_le (xs := x) (k := k + 1) (by omega)
      have s3 : szIntss x = x.length + lenSum x x.length := rfl
      have s4 : (lenSum x (k + 1) : Int) ≤ left - x.length := by omega
      have S1 := Lib.hid s1
      have e2 : ¬ left - (x.length : Int) - (lenSum x (k + 1) : Int) < 0 := by omega
      have i1 : 0 ≤ left - (x.length : Int) - (lenSum x k : Int) := by omega
      have E3 := Lib.hid (show left - (x.length : Int) - (lenSum x (k + 1) : Int) = if left - (x.length : Int) - (lenSum x k : Int) < x[k].length then -1 else left - (x.length : Int) - (lenSum x k : Int) - x[k].length by rw [if_neg (by omega)]; omega)
      clear s1 s2 s3 s4
      go_wp2_with fail
      refine (szInts_any _ x[k] _ _ _ hv i1 (by omega) E3.out).mono ?_
      rintro e w2 ⟨rfl, rfl⟩
      go_wp2
      go_roundw
      case rel => exact ⟨k + 1, by omega, by go_num, rfl, hb⟩
      case measure => simp [intOf] <;> omega
    · obtain rfl : k = x.length := by omega
      go_wp2
      go_ret
      exact ⟨ret_int (by unfold szIntss; omega), hb⟩

set_option maxHeartbeats 1000000 in
theorem szIntssN (v : Value) (x : List (List Int)) (left : Int) (w : World) (h : RdIntss w v x) (_ : okIntss x) (h0 : 0 ≤ left) (hl : left ≤ 1048576) (hs : left < szIntss x) :
    Calls Tryz.prog 19 #[v, .int .i64 left] w fun e w' => e = .returned (.int .i64 (-1)) ∧ Below w.heap.size w w' := by
  obtain ⟨a, ca, rfl, _, hm⟩ := h.form'
  unfold maxLen at hm
  have HS := Lib.hid hs; clear hs
  by_cases g : left < x.length
  · have e1 : left - (x.length : Int) < 0 := by omega
    go_enter Tryz.func19, Tryz.ntmps19
    go_wp2
    go_ret
    exact ⟨rfl, Below.refl _ _⟩
  · have e1 : ¬ left - (x.length : Int) < 0 := by omega
    go_enter Tryz.func19, Tryz.ntmps19
    go_wp2_with fail
    go_loopw [1, 5] (fun l i wr => ∃ k : Nat, k ≤ x.length ∧ i = .int .i64 k ∧ l = .int .i64 (left - x.length - lenSum x k) ∧ 0 ≤ left - x.length - lenSum x k ∧ Below w.heap.size w wr) (fun _ i _ => x.length - (intOf i).toNat)
    case atStart => exact ⟨0, Nat.zero_le _, rfl, by simp [lenSum], by simp [lenSum]; omega, Below.refl _ _⟩
    case round =>
      obtain ⟨k, hk, rfl, rfl, hp, hb⟩ := hrel
      have hlt : k < x.length := by
        by_cases e : k < x.length
        · exact e
        · obtain rfl : k = x.length := by omega
          have := HS.out
          unfold szIntss at this
          omega
      obtain ⟨b1, o1, lv, c1, rfl, hB, c0, hv⟩ := (h.mono hb).at hlt
      have S1 := Lib.hid (lenSum_step hlt)
      by_cases g2 : left - (x.length : Int) - (lenSum x k : Int) < x[k].length
      · have E3 := Lib.hid (show (-1 : Int) = if left - (x.length : Int) - (lenSum x k : Int) < x[k].length then -1 else left - (x.length : Int) - (lenSum x k : Int) - x[k].length by rw [if_pos g2])
        go_wp2_with fail
        refine (szInts_any _ x[k] _ _ _ hv hp (by omega) E3.out).mono ?_
        rintro e w2 ⟨rfl, rfl⟩
        go_wp2
        go_ret
        exact ⟨rfl, hb⟩
      · have E3 := Lib.hid (show left - (x.length : Int) - (lenSum x (k + 1) : Int) = if left - (x.length : Int) - (lenSum x k : Int) < x[k].length then -1 else left - (x.length : Int) - (lenSum x k : Int) - x[k].length by rw [if_neg g2, S1.out]; omega)
        have e2 : ¬ left - (x.length : Int) - (lenSum x (k + 1) : Int) < 0 := by rw [S1.out]; omega
        go_wp2_with fail
        refine (szInts_any _ x[k] _ _ _ hv hp (by omega) E3.out).mono ?_
        rintro e w2 ⟨rfl, rfl⟩
        go_wp2
        go_roundw
        case rel => exact ⟨k + 1, by omega, by go_num, rfl, by omega, hb⟩
        case measure => simp [intOf] <;> omega

set_option maxHeartbeats 1000000 in
theorem eqIntss_any (v1 v2 : Value) (xs ys : List (List Int)) (w : World) (h1 : RdIntss w v1 xs) (h2 : RdIntss w v2 ys) :
    Calls Tryz.prog 36 #[v1, v2] w fun e w' => e = .returned (.bool (decide (xs = ys))) ∧ Below w.heap.size w w' := by
  obtain ⟨a, ca, rfl, _, hm⟩ := h1.form'
  obtain ⟨b, cb, rfl, _, hm2⟩ := h2.form'
  unfold maxLen at hm hm2
  by_cases hl : xs.length = ys.length
  · have b5 : ((xs.length : Int) != (ys.length : Int)) = false := by rw [hl]; simp
    have HL := Lib.hid hl; clear hl
    go_enter Tryz.func36, Tryz.ntmps36
    go_wp2
    go_loopw [5] (fun i wr => ∃ k : Nat, k ≤ xs.length ∧ i = .int .i64 k ∧ xs.take k = ys.take k ∧ Below w.heap.size w wr) (fun i _ => xs.length - (intOf i).toNat)
    case atStart => exact ⟨0, Nat.zero_le _, rfl, by simp, Below.refl _ _⟩
    case round =>
      obtain ⟨k, hk, rfl, ht, hb⟩ := hrel
      have HT := Lib.hid ht; clear ht
      by_cases hlt : k < xs.length
      · have hk2 : k < ys.length := by rw [← HL.out]; exact hlt
        obtain ⟨b3, o3, l3, q3, rfl, hB3, u0, uv⟩ := (h1.mono hb).at hlt
        obtain ⟨b4, o4, l4, q4, rfl, hB4, z0, zv⟩ := (h2.mono hb).at hk2
        go_wp2_with fail
        refine wp_region_ord [(0, true), (1, true), (2, true), (3, true), (4, true), (5, true), (6, true), (7, true), (8, false), (9, true)] (none) (by kernel_rfl) (by kernel_rfl) ?_
        (repeat (with_reducible refine wpOrd_soft (fun K hK => ?_); simp only [List.getElem?_toArray, List.getElem?_cons_zero, List.getElem?_cons_succ]; first | (go_simp; refine hK _ ?_) | (simp only [undef]; go_simp; refine hK _ ?_); clear hK K))
        (with_reducible refine wpOrd_hard ?_; simp only [List.getElem?_toArray, List.getElem?_cons_zero, List.getElem?_cons_succ])
        go_wp2_with fail
        refine (eqInts_any _ _ xs[k] ys[k] _ (uv.mono (by (repeat (first | with_reducible exact Below.refl _ _ | with_reducible exact hbw | (with_reducible refine Below.setCell ?_ ?_ _; rotate_left; · first | exact Nat.le_refl _ | omega | (simp; done) | (simp; omega)) | (with_reducible refine Below.alloc ?_ ?_ _; rotate_left; · first | exact Nat.le_refl _ | omega | (simp; done) | (simp; omega)) | with_reducible refine below_drewN ?_ _ | with_reducible refine Below.drew ?_)))) (zv.mono (by (repeat (first | with_reducible exact Below.refl _ _ | with_reducible exact hbw | (with_reducible refine Below.setCell ?_ ?_ _; rotate_left; · first | exact Nat.le_refl _ | omega | (simp; done) | (simp; omega)) | (with_reducible refine Below.alloc ?_ ?_ _; rotate_left; · first | exact Nat.le_refl _ | omega | (simp; done) | (simp; omega)) | with_reducible refine below_drewN ?_ _ | with_reducible refine Below.drew ?_))))).mono ?_
        rintro e w2 ⟨rfl, hq2⟩
        have hb3 := undrew (hq2.below wr.heap.size)
        clear hq2
        go_wp2_with fail
        refine ⟨grown_of_below hb3, ?_⟩
        by_cases g : xs[k] = ys[k]
        · have d : decide (xs[k] = ys[k]) = true := by simpa using g
          have G := Lib.hid g; clear g
          (repeat (with_reducible refine wpOrd_soft (fun K hK => ?_); simp only [List.getElem?_toArray, List.getElem?_cons_zero, List.getElem?_cons_succ]; first | (go_simp; refine hK _ ?_) | (simp only [undef]; go_simp; refine hK _ ?_); clear hK K))
          (with_reducible refine wpOrd_nil ?_); refine NoPanic.normal ?_
          go_wp2
          go_roundw
          case rel => exact ⟨k + 1, by omega, by go_num, take_step hlt hk2 HT.out (by simpa using G.out), hb.trans (hb3.mono hb.size)⟩
          case measure => simp [intOf] <;> omega
        · have d : decide (xs[k] = ys[k]) = false := by simpa using g
          have G := Lib.hid (show ¬ xs = ys from ne_of_get hlt hk2 (by simpa using g)); clear g
          (repeat (with_reducible refine wpOrd_soft (fun K hK => ?_); simp only [List.getElem?_toArray, List.getElem?_cons_zero, List.getElem?_cons_succ]; first | (go_simp; refine hK _ ?_) | (simp only [undef]; go_simp; refine hK _ ?_); clear hK K))
          (with_reducible refine wpOrd_nil ?_); refine NoPanic.normal ?_
          go_wp2
          go_ret
          exact ⟨ret_bool (by simpa using G.out), hb.trans (hb3.mono hb.size)⟩
      · go_wp2
        go_ret
        exact ⟨ret_bool (by simpa using eq_of_take HL.out hlt HT.out), hb⟩
  · have b5 : ((xs.length : Int) != (ys.length : Int)) = true := by simp; omega
    have EX := Lib.hid hl; clear hl
    go_enter Tryz.func36, Tryz.ntmps36
    go_wp2
    go_ret
    exact ⟨ret_bool (by simpa using fun h => EX.out (by rw [h])), Below.refl _ _⟩

theorem eqIntssK (v1 v2 : Value) (x : List (List Int)) (w : World) (h1 : RdIntss w v1 x) (h2 : RdIntss w v2 x) :
    Calls Tryz.prog 36 #[v1, v2] w fun e w' => e = .returned (.bool true) ∧ Below w.heap.size w w' :=
  (eqIntss_any v1 v2 x x w h1 h2).mono fun e w' ⟨he, hb⟩ => ⟨by rw [he]; simp, hb⟩

end Go.Proofs.YtenedpboehkmjaaGreat
/- How an argument that is a slice of slices of numbers is opened. -/
set_option linter.unusedSimpArgs false
set_option linter.unnecessarySimpa false
set_option linter.unusedVariables false
set_option maxRecDepth 100000
namespace Go.Proofs.YtenedpboehkmjaaGreat
open Go.ChangeShapes Go.WideShapes Go.ChangeAt Go.RowKit Go.Deep

section
variable {H : Type} {enc : TypeId × Value → H} {W : World} {base : Nat}
theorem cells_ints : Tryz.prog.cellsOf 22 = 1 := by kernel_rfl

theorem one_ints (n : Nat) (cs : List Value) (y : DataW H × List MemPlace) (h : DataW.trod enc Tryz.prog W 0 (fun _ => true) true n 22 cs = some y) :
    ∃ x : Value × List Int, cs = [x.1] ∧ (Ints W x.1 x.2 ∧ ∀ k ∈ x.2, I64 k) := by
  rcases open_ints Tryz.underlying22 Tryz.underlying2 cells_int h with ⟨hcs, hx⟩ | ⟨a, len', cap', zs, hcs, _, hl, hm, hz, hx, hcell, hwz⟩
  · exact ⟨(.slice none 0 0, []), hcs, ⟨none, 0, rfl, Nat.le_refl _, by simp [maxLen], fun j u hu => by simp at hu⟩, by simp⟩
  · simp only [if_true] at hz
    refine ⟨(.slice (some a) len' cap', zs.take len'), hcs, ⟨some a, cap', by rw [List.length_take, Nat.min_eq_left (by omega)], by rw [List.length_take]; omega, hm, fun j u hu => ?_⟩, fun x hx => hwz x (List.mem_of_mem_take hx)⟩
    have hj : j < len' := by have := (List.getElem?_eq_some_iff.1 hu).1; simp at this; omega
    have hc := hcell j (by omega)
    obtain ⟨b, off, spot⟩ := a
    have hspot : spot = none := by simpa [Addr.add] using World.cell?_spot (hcell 0 (by omega))
    subst hspot
    refine ⟨b, off, rfl, ?_⟩
    rw [add_plain] at hc
    rw [hc, ← hu]
    simp [List.getElem?_take, hj, show j < zs.length by omega]

theorem flat_one (ys : List (Value × List Int)) : (ys.flatMap fun y => [y.1]) = ys.map Prod.fst := by
  induction ys with
  | nil => rfl
  | cons y ys ih => rw [List.flatMap_cons, ih]; rfl

theorem open_arg_intss {v : Value} {d : DataW H} {p : List MemPlace} (hv : Value.okWide Tryz.prog W .any base 23 v) (h : DataW.Trod enc Tryz.prog W 0 (fun _ => true) true 23 v d p) :
    ∃ x : List (List Int), RdIntss W v x ∧ okIntss x := by
  obtain ⟨a0, len, cap, rfl⟩ := okWide_slice Tryz.underlying23 hv
  obtain ⟨fuel, hf⟩ := h
  obtain ⟨ys, hx, hr⟩ := open_structs (fun y : Value × List Int => [y.1]) (fun y => Ints W y.1 y.2 ∧ ∀ k ∈ y.2, I64 k) 1 (by omega) (fun _ => rfl) Tryz.underlying23 cells_ints one_ints hf
  rw [flat_one] at hx
  exact ⟨ys.map Prod.snd, ⟨ys, rfl, hx, fun y hy => (hr y hy).1⟩, fun x hx => by obtain ⟨y, hy, rfl⟩ := List.mem_map.1 hx; exact (hr y hy).2⟩
end
end Go.Proofs.YtenedpboehkmjaaGreat
