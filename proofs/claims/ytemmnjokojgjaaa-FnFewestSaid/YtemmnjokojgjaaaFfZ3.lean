import Derived.Test.YtemmnjokojgjaaaFfZ2
import Derived.Test.YtemmnjokojgjaaaChecked
import Derived.Test.YtemmnjokojgjaaaFfZ1
import Derived.Deep.QuietTactic
import Derived.BigQuiet
/- A region that draws its order, walked step by step, where blocks from B up to E may be written: what only reads is taken at once, all else forks. No program in sight. -/
set_option linter.unusedSimpArgs false
set_option linter.unnecessarySimpa false
set_option linter.unusedVariables false
namespace Go.Proofs.Ytemmnjokojgjaaa
open Go.RowKit

section
variable {P : Program} {ops : Array Oper} {Q : Exit → Act → World → Prop} {w0 : World} {B E : Nat}

/-- The walk from where 'L' has come up; n operations are left. -/
def wpT (P : Program) (ops : Array Oper) (Q : Exit → Act → World → Prop) (w0 : World) (B E : Nat) (n : Nat) (L : Array Bool) (a : Act) (w : World) : Prop :=
  wpAnyH P .any ops (NoPanic Q) (fun w => Touch B E w0 w) n L a w

theorem wp_region_T {id : Nat} {a : Act} {w : World} {l : List Oper} (B E n : Nat) (hm : P.follows .mixedOrders = true) (hn : l.length = n)
    (h : wpT P l.toArray Q w.drew B E n (Array.replicate n false) a w.drew) : (Code.region id l.toArray true).wp P Q a w := by
  subst hn
  refine wp_region_noPanic (wp_region_any hm ?_)
  unfold wpT at h
  exact wpAny_of_held _ _ _ _ (by simpa using h)

theorem wpT_soft {n : Nat} {L : Array Bool} {a : Act} {w : World} (i : Nat) (hB : (Region.noSelect ops && (Region.ready .any ops L).contains i && Region.free .any ops L i) = true) (hS : Touch B E w0 w)
    (h : ∀ K : Act → Prop, (∀ a, wpT P ops Q w0 B E n (L.setIfInBounds i true) a w → K a) → match ops[i]? with | none => False | some o => if Region.wanted o (yielded ops a.tmps) = true then softT P w0 B E o a K else K (a.put o.dst undef)) : wpT P ops Q w0 B E (n + 1) L a w := by
  simp only [Bool.and_eq_true] at hB
  obtain ⟨⟨hs, hr⟩, hf⟩ := hB
  have h := h _ fun _ h => h
  unfold wpT at h ⊢
  split at h
  · exact h.elim
  · rename_i o ho
    split at h
    · rename_i hw
      obtain ⟨v, h1, h2⟩ := h
      refine wpAnyH_take ho hs hf hr (fun c a w h => (h : False).elim) (.inl ⟨hw, fun w' hw' => ?_⟩) hS h2
      obtain ⟨x, rfl⟩ := extT_of_touch hw'
      exact h1 x
    · rename_i hw
      exact wpAnyH_take ho hs hf hr (fun c a w h => (h : False).elim) (.inr ⟨by simpa using hw, rfl⟩) hS h

theorem wpT_one {n : Nat} {L : Array Bool} {a : Act} {w : World} (i : Nat) (hr : decide (Region.ready .any ops L = [i]) = true)
    (h : match ops[i]? with | none => False | some o => wpList P ops (only (NoPanic Q) fun a' w' => Touch B E w0 w' ∧ wpT P ops Q w0 B E n (L.setIfInBounds i true) a' w') [o] a w) : wpT P ops Q w0 B E (n + 1) L a w := by
  unfold wpT
  refine wpAnyH_all (of_decide_eq_true hr) (by simp) (fun j hj => ?_)
  obtain rfl : j = i := by simpa using hj
  exact wpOp_only h

theorem wpT_two {n : Nat} {L : Array Bool} {a : Act} {w : World} (i j : Nat) (hr : decide (Region.ready .any ops L = [i, j]) = true)
    (h1 : match ops[i]? with | none => False | some o => wpList P ops (only (NoPanic Q) fun a' w' => Touch B E w0 w' ∧ wpT P ops Q w0 B E n (L.setIfInBounds i true) a' w') [o] a w)
    (h2 : match ops[j]? with | none => False | some o => wpList P ops (only (NoPanic Q) fun a' w' => Touch B E w0 w' ∧ wpT P ops Q w0 B E n (L.setIfInBounds j true) a' w') [o] a w) : wpT P ops Q w0 B E (n + 1) L a w := by
  unfold wpT
  refine wpAnyH_all (of_decide_eq_true hr) (by simp) (fun k hk => ?_)
  simp only [List.mem_cons, List.not_mem_nil, or_false] at hk
  rcases hk with rfl | rfl
  · exact wpOp_only h1
  · exact wpOp_only h2

theorem wpT_done {L : Array Bool} {a : Act} {w : World} (hr : decide (Region.ready .any ops L = []) = true) (h : NoPanic Q .normal a w) (n : Nat) : wpT P ops Q w0 B E n L a w := by
  unfold wpT
  cases n with
  | zero => exact ⟨of_decide_eq_true hr, h⟩
  | succ n => exact ⟨fun _ => h, by rw [of_decide_eq_true hr]; simp⟩
end

/-- 'append(row, lit...)', the literal whatever reads as cells: and where the row lies then. -/
theorem append_sl {P : Program} {w : World} {ops : Array Oper} {rest : List Oper} {o : Oper} {a : Act} {Q : Exit → Act → World → Prop} (hgd : o.guard = none) (s x : Operand) (t : TypeId)
    (ho : o.op = .call { callee := .builtin .append, args := #[s, x], argTypes := #[t, t] })
    (base : Nat) (e : TypeId) (z : Value) (size bytes : Nat) (ht : P.underlying t = some (.slice e)) (hi : (P.info? e).map (fun i => (i.zero, i.size, i.bytes)) = some (some z, size, bytes)) (hzs : z.cells.size = size) (hsz : 0 < size)
    (v : Value) (n : Nat) (xs : List Value) (hs : a.eval s = v) (hown : w.ownsRow base e size v n xs)
    (sv : Value) (m : Nat) (news : List Value) (hx : a.eval x = sv) (hr : Sl w sv m news) (hl : news.length = m * size) (h1 : ∀ u ∈ news, u.oneCell' = true) (hn : n + m ≤ 1000000000) (hbytes : bytes ≤ 1000) (hbase : base ≤ w.heap.size)
    (h : ∀ a' cap' w', w'.ownsRow base e size (.slice a' (n + m) cap') (n + m) (xs ++ news) → w.grownBy w' v.ownBlock → Below base w w' → ((Value.slice a' (n + m) cap').ownBlock = v.ownBlock ∨ (Value.slice a' (n + m) cap').ownBlock = some w.heap.size) → wpList P ops Q rest (Act.put a o.dst (.slice a' (n + m) cap')) w') :
    wpList P ops Q (o :: rest) a w := by
  obtain ⟨i0, hi, hz0, hz1, hz2⟩ := info_parts hi
  obtain ⟨A, c, rfl, _, _, _⟩ := id hr
  have hb2 : (n + m) * bytes ≤ 140737488355328 := Nat.le_trans (Nat.mul_le_mul hn hbytes) (by omega)
  obtain ⟨v', w', hrun, h2, h3, h4⟩ := run_append_sl (P := P) w base t o.type e i0 z size bytes ht hi hz0 hz1 hz2 hzs hsz v n xs hown A m c news hr hl h1 (by unfold maxLen; omega) hb2 hbase
  obtain ⟨a', cap', rfl⟩ := owns_slice h2
  refine wpList_plain hgd fun _ hK => ?_
  unfold Oper.wp execOp
  simp only [ho, resolve, invoke, builtin, Sem.run_bind, Sem.run_pure, Result.andThen_ok, List.map_toArray, List.map_cons, List.map_nil, hs, hx, hrun]
  exact hK _ _ (h a' cap' w' h2 h3 ((Below.refl base w).grown h3 hbase (fun k hk => (hown.lt k hk).1)) h4)
theorem Apt.next' {v v' o : Value} {H : Nat} (ha : Apt v o) (hv : v'.ownBlock = v.ownBlock ∨ v'.ownBlock = some H) (ho : ∀ k, o.ownBlock = some k → k < H) : Apt v' o := by
  rcases hv with h | h
  · rcases ha with g | g | g
    · exact .inl (h.trans g)
    · exact .inr (.inl g)
    · exact .inr (.inr (by rw [h]; exact g))
  · cases hb : o.ownBlock with
    | none => exact .inr (.inl hb)
    | some k =>
      refine .inr (.inr ?_)
      have := ho k hb
      rw [h, hb]
      simp only [ne_eq, Option.some.injEq]
      omega
theorem Sl.keepG {w w' : World} {q m c : Nat} {cs : List Value} {row : Option Nat} (h : Sl w (.slice (some ⟨q, 0, none⟩) m c) m cs) (hg : w.grownBy w' row) (hr : row ≠ some q) : Sl w' (.slice (some ⟨q, 0, none⟩) m c) m cs := by
  obtain ⟨a, cap, e, h1, h2, h3⟩ := h
  cases e
  refine ⟨_, _, rfl, h1, h2, fun j u hu => ?_⟩
  obtain ⟨b, off, e, hc⟩ := h3 j u hu
  cases e
  exact ⟨_, _, rfl, (World.cell?_of_block (w := w) (hg.block q (World.block_lt_of_cell? w _ hc) (fun e => hr e.symm))).trans hc⟩
/-- A slice literal that was just laid. -/
theorem sl_lit (w : World) (cs : List Value) (e : TypeId) (n H : Nat) (hH : w.heap.size = H) (hn : n ≤ maxLen) : Sl (w.alloc (.cells cs.toArray e)) (.slice (some ⟨H, 0, none⟩) n n) n cs := by
  subst hH
  exact ⟨_, _, rfl, Nat.le_refl _, hn, fun j u hu => ⟨_, _, rfl, by
    rw [Nat.zero_add, cell_of_row _ w.heap.size j cs.toArray e (0, 0) (heap_alloc_new w _)]
    simpa using hu⟩⟩

end Go.Proofs.Ytemmnjokojgjaaa
/- Contracts of the laws' helpers over Tone and slices of it: copy, equality, size, marks. -/
set_option linter.unusedSimpArgs false
set_option linter.unnecessarySimpa false
set_option linter.unusedVariables false
namespace Go.Proofs.Ytemmnjokojgjaaa
open Go.RowKit

structure Ton where
  note : Int
  start : Int
  len : Int
  deriving DecidableEq

def Ton.val (x : Ton) : Value := .agg #[.int .i64 x.note, .int .i64 x.start, .int .i64 x.len]
def Ton.cells (x : Ton) : List Value := [.int .i64 x.note, .int .i64 x.start, .int .i64 x.len]
def Tons (w : World) (v : Value) (xs : List Ton) : Prop := Sl w v xs.length (xs.flatMap Ton.cells)
theorem Ton.ext_iff' (x y : Ton) : x = y ↔ x.note = y.note ∧ x.start = y.start ∧ x.len = y.len := by cases x; cases y; simp [Ton.mk.injEq]
theorem Tons.mono {w w' : World} {v : Value} {xs : List Ton} (h : Tons w v xs) (hb : Below w.heap.size w w') : Tons w' v xs := Sl.mono h hb
theorem Tons.q {w w' : World} {v : Value} {xs : List Ton} (h : Tons w v xs) (hq : Q w w') : Tons w' v xs := h.mono (hq.below _)
theorem Tons.of_owns {w : World} {base : Nat} {e : TypeId} {v : Value} {xs : List Ton} (h : w.ownsRow base e 3 v xs.length (xs.flatMap Ton.cells)) : Tons w v xs := Sl.of_owns h
theorem Ton.len_cells (xs : List Ton) : (xs.flatMap Ton.cells).length = xs.length * 3 := flat_len (f := Ton.cells) (fun _ => rfl) xs
theorem Tons.at {w : World} {a : Option Addr} {cap : Nat} {xs : List Ton} {k : Nat} (h : Tons w (.slice a xs.length cap) xs) (hk : k < xs.length) :
    ∃ b off, a = some ⟨b, off, none⟩ ∧ b < w.heap.size ∧ w.cell? ⟨b, off + k * 3, none⟩ = some (.int .i64 xs[k].note) ∧ w.cell? ⟨b, off + k * 3 + 1, none⟩ = some (.int .i64 xs[k].start) ∧ w.cell? ⟨b, off + k * 3 + 2, none⟩ = some (.int .i64 xs[k].len) := by
  obtain ⟨b, off, rfl, hc⟩ := Sl.cells h (by rw [Ton.len_cells]; omega)
  have h0 := hc (k * 3 + 0) _ (flat_at (f := Ton.cells) (m := 3) (fun _ => rfl) xs k 0 hk (by omega) (u := .int .i64 xs[k].note) rfl)
  have h1 := hc (k * 3 + 1) _ (flat_at (f := Ton.cells) (m := 3) (fun _ => rfl) xs k 1 hk (by omega) (u := .int .i64 xs[k].start) rfl)
  have h2 := hc (k * 3 + 2) _ (flat_at (f := Ton.cells) (m := 3) (fun _ => rfl) xs k 2 hk (by omega) (u := .int .i64 xs[k].len) rfl)
  exact ⟨b, off, rfl, World.block_lt_of_cell? w _ h0, by simpa [Nat.add_assoc] using h0, by simpa [Nat.add_assoc] using h1, by simpa [Nat.add_assoc] using h2⟩

theorem toTon_any (x : Ton) (w : World) :
    Calls Try.prog 75 #[.agg #[.int .i64 x.note, .int .i64 x.start, .int .i64 x.len]] w fun e w' => e = .returned (.agg #[.int .i64 x.note, .int .i64 x.start, .int .i64 x.len]) ∧ Below w.heap.size w w' := by
  go_enter Try.func75, Try.ntmps75
  go_wp2
  refine bodyPost_ret (v := .agg #[.int .i64 x.note, .int .i64 x.start, .int .i64 x.len]) (by simp [results, Try.results75, go_sem]) rfl ⟨rfl, ?_⟩
  (repeat (first | with_reducible exact Below.refl _ _ | with_reducible exact hbw | (with_reducible refine Below.setCell ?_ ?_ _; rotate_left; · first | exact Nat.le_refl _ | omega | (simp; done) | (simp; omega)) | (with_reducible refine Below.alloc ?_ ?_ _; rotate_left; · first | exact Nat.le_refl _ | omega | (simp; done) | (simp; omega)) | with_reducible refine below_drewN ?_ _ | with_reducible refine Below.drew ?_))

theorem eqTon_any (x y : Ton) (w : World) :
    Calls Try.prog 82 #[.agg #[.int .i64 x.note, .int .i64 x.start, .int .i64 x.len], .agg #[.int .i64 y.note, .int .i64 y.start, .int .i64 y.len]] w fun e w' => e = .returned (.bool (decide (x = y))) ∧ Below w.heap.size w w' := by
  by_cases h0 : x.note = y.note
  · skip
    by_cases h1 : x.start = y.start
    · skip
      by_cases h2 : x.len = y.len
      · skip
        have e_note : (x.note != y.note) = false := by simpa using h0
        have e_start : (x.start != y.start) = false := by simpa using h1
        have e_len : (x.len != y.len) = false := by simpa using h2
        have hd : decide (x = y) = true := by apply decide_eq_true; rw [Ton.ext_iff']; simp [*]
        have HD := Lib.hid hd; clear hd h0 h1 h2
        go_enter Try.func82, Try.ntmps82
        go_wp2
        go_ret
        refine ⟨by rw [HD.out]; rfl, ?_⟩
        (repeat (first | with_reducible exact Below.refl _ _ | with_reducible exact hbw | (with_reducible refine Below.setCell ?_ ?_ _; rotate_left; · first | exact Nat.le_refl _ | omega | (simp; done) | (simp; omega)) | (with_reducible refine Below.alloc ?_ ?_ _; rotate_left; · first | exact Nat.le_refl _ | omega | (simp; done) | (simp; omega)) | with_reducible refine below_drewN ?_ _ | with_reducible refine Below.drew ?_))
      · skip
        have e_note : (x.note != y.note) = false := by simpa using h0
        have e_start : (x.start != y.start) = false := by simpa using h1
        have e_len : (x.len != y.len) = true := by simpa using h2
        have hd : decide (x = y) = false := by apply decide_eq_false; rw [Ton.ext_iff']; simp [*]
        have HD := Lib.hid hd; clear hd h0 h1 h2
        go_enter Try.func82, Try.ntmps82
        go_wp2
        go_ret
        refine ⟨by rw [HD.out]; rfl, ?_⟩
        (repeat (first | with_reducible exact Below.refl _ _ | with_reducible exact hbw | (with_reducible refine Below.setCell ?_ ?_ _; rotate_left; · first | exact Nat.le_refl _ | omega | (simp; done) | (simp; omega)) | (with_reducible refine Below.alloc ?_ ?_ _; rotate_left; · first | exact Nat.le_refl _ | omega | (simp; done) | (simp; omega)) | with_reducible refine below_drewN ?_ _ | with_reducible refine Below.drew ?_))
    · skip
      have e_note : (x.note != y.note) = false := by simpa using h0
      have e_start : (x.start != y.start) = true := by simpa using h1
      have hd : decide (x = y) = false := by apply decide_eq_false; rw [Ton.ext_iff']; simp [*]
      have HD := Lib.hid hd; clear hd h0 h1
      go_enter Try.func82, Try.ntmps82
      go_wp2
      go_ret
      refine ⟨by rw [HD.out]; rfl, ?_⟩
      (repeat (first | with_reducible exact Below.refl _ _ | with_reducible exact hbw | (with_reducible refine Below.setCell ?_ ?_ _; rotate_left; · first | exact Nat.le_refl _ | omega | (simp; done) | (simp; omega)) | (with_reducible refine Below.alloc ?_ ?_ _; rotate_left; · first | exact Nat.le_refl _ | omega | (simp; done) | (simp; omega)) | with_reducible refine below_drewN ?_ _ | with_reducible refine Below.drew ?_))
  · skip
    have e_note : (x.note != y.note) = true := by simpa using h0
    have hd : decide (x = y) = false := by apply decide_eq_false; rw [Ton.ext_iff']; simp [*]
    have HD := Lib.hid hd; clear hd h0
    go_enter Try.func82, Try.ntmps82
    go_wp2
    go_ret
    refine ⟨by rw [HD.out]; rfl, ?_⟩
    (repeat (first | with_reducible exact Below.refl _ _ | with_reducible exact hbw | (with_reducible refine Below.setCell ?_ ?_ _; rotate_left; · first | exact Nat.le_refl _ | omega | (simp; done) | (simp; omega)) | (with_reducible refine Below.alloc ?_ ?_ _; rotate_left; · first | exact Nat.le_refl _ | omega | (simp; done) | (simp; omega)) | with_reducible refine below_drewN ?_ _ | with_reducible refine Below.drew ?_))

theorem szTons_any (v : Value) (xs : List Ton) (n : Nat) (left : Int) (w : World) (h1 : ∃ a cap, v = .slice a n cap) (h0 : 0 ≤ left) (hl : left ≤ 1048576) (hn : n ≤ maxLen) :
    Calls Try.prog 40 #[v, .int .i64 left] w fun e w' => e = .returned (.int .i64 (if left < n then -1 else left - n)) ∧ w' = w := by
  obtain ⟨a, cap, rfl⟩ := h1
  unfold maxLen at hn
  by_cases hc : left < n
  · have h2 : left - (n : Int) < 0 := by omega
    have hd : (if left < (n : Int) then (-1 : Int) else left - n) = -1 := if_pos hc
    have HD := Lib.hid hd; clear hd
    go_enter Try.func40, Try.ntmps40
    go_wp2
    go_ret
    exact ⟨by first | rfl | (rw [HD.out]; rfl), rfl⟩
  · have h2 : ¬ left - (n : Int) < 0 := by omega
    have hd : (if left < (n : Int) then (-1 : Int) else left - n) = left - n := if_neg hc
    have HD := Lib.hid hd; clear hd
    go_enter Try.func40, Try.ntmps40
    go_wp2
    go_ret
    exact ⟨by first | rfl | (rw [HD.out]; rfl), rfl⟩

theorem info_Tone : (Try.prog.info? 92).map (fun i => (i.zero, i.size, i.bytes)) = some (some (.agg #[.int .i64 0, .int .i64 0, .int .i64 0]), 3, 24) := by kernel_rfl

/-- The cells of a copy, k elements of it filled. -/
def partTon (xs : List Ton) (k : Nat) : List Value := (xs.take k).flatMap Ton.cells ++ List.replicate ((xs.length - k) * 3) (.int .i64 0)
theorem partTon_zero (xs : List Ton) : partTon xs 0 = List.replicate (xs.length * 3) (.int .i64 0) := by simp [partTon]
theorem partTon_all (xs : List Ton) (k : Nat) (h : ¬ k < xs.length) : partTon xs k = xs.flatMap Ton.cells := by simp [partTon, List.take_of_length_le (show xs.length ≤ k by omega), show xs.length - k = 0 by omega]
theorem partTon_open (xs : List Ton) (k : Nat) (h : k < xs.length) : partTon xs k = (xs.take k).flatMap Ton.cells ++ (.int .i64 0 :: .int .i64 0 :: .int .i64 0 :: List.replicate ((xs.length - (k + 1)) * 3) (.int .i64 0)) := by
  unfold partTon; rw [show (xs.length - k) * 3 = (xs.length - (k + 1)) * 3 + 3 by omega]; simp [List.replicate_succ]
theorem partTon_step (xs : List Ton) (k : Nat) (h : k < xs.length) : partTon xs (k + 1) = (xs.take k).flatMap Ton.cells ++ (.int .i64 xs[k].note :: .int .i64 xs[k].start :: .int .i64 xs[k].len :: List.replicate ((xs.length - (k + 1)) * 3) (.int .i64 0)) := by
  unfold partTon; rw [List.take_succ_eq_append_getElem h]; simp only [List.flatMap_append, List.flatMap_cons, List.flatMap_nil, List.append_nil, List.append_assoc, Ton.cells, List.cons_append, List.nil_append]
theorem partTon_len (xs : List Ton) (k : Nat) (h : k ≤ xs.length) : ((xs.take k).flatMap Ton.cells).length = k * 3 := by rw [Ton.len_cells, List.length_take, Nat.min_eq_left h]

set_option maxHeartbeats 400000 in
theorem toTons_any (v1 : Value) (xs : List Ton) (w : World) (h1 : Tons w v1 xs) (hs : xs.length ≤ 1048576) :
    Calls Try.prog 43 #[v1] w fun e w' => ∃ v, e = .returned v ∧ w'.ownsRow w.heap.size 92 3 v xs.length (xs.flatMap Ton.cells) ∧ Below w.heap.size w w' := by
  obtain ⟨a, ca, rfl, _, _, _⟩ := id h1
  obtain ⟨i0, hi, hz0, hz1, hz2⟩ := info_parts info_Tone
  have HS := Lib.hid hs; clear hs
  go_enter Try.func43, Try.ntmps43
  go_wp2_with (at_make; refine wpList_make_full _ rfl _ _ 27 rfl w.heap.size 92 i0 _ 3 Try.underlying27 hi hz0 hz1 _ _ _ _ xs.length rfl rfl rfl rfl (by rw [hz2]; have := HS.out; omega) (by have := HS.out; unfold maxLen; omega) (Nat.le_refl _) ?_)
  intro w1 hown hgrow
  have hb1 : Below w.heap.size w w1 := (Below.refl _ _).grown hgrow (Nat.le_refl _) (by simp)
  go_wp2
  go_loopw [4] (fun i wr => ∃ k : Nat, k ≤ xs.length ∧ i = .int .i64 k ∧ wr.ownsRow w.heap.size 92 3 (.slice (some ⟨w.heap.size, 0, none⟩) xs.length xs.length) xs.length (partTon xs k) ∧ Below w.heap.size w wr) (fun i _ => xs.length - (intOf i).toNat)
  case atStart => exact ⟨0, Nat.zero_le _, rfl, by rw [partTon_zero]; simpa [made_rep3, Value.cells] using hown, hb1⟩
  case round =>
    obtain ⟨k, hk, rfl, ho, hb⟩ := hrel
    clear hown hgrow hb1
    by_cases hlt : k < xs.length
    · obtain ⟨b1, o1, rfl, hB, c0, c1, c2⟩ := (h1.mono hb).at hlt
      have hm : xs.length ≤ 1048576 := HS.out
      go_wp2_with fail
      refine (toTon_any xs[k] _).mono ?_
      rintro e w2 ⟨rfl, hb2⟩
      have ho2 := owns_mono ho hb2
      have hop := partTon_open xs k hlt
      have hpl := partTon_len xs k hk

      have d0 : w2.cell? ⟨w.heap.size, k * 3, none⟩ = some (.int .i64 0) := by rw [ho2.cellAt _ (by omega), hop, List.getElem?_append_right (by omega), hpl]; simp
      have f0 := ho2.frozenAt (k * 3)
      have d1 : w2.cell? ⟨w.heap.size, k * 3 + 1, none⟩ = some (.int .i64 0) := by rw [ho2.cellAt _ (by omega), hop, List.getElem?_append_right (by omega), hpl]; simp
      have f1 := ho2.frozenAt (k * 3 + 1)
      have d2 : w2.cell? ⟨w.heap.size, k * 3 + 2, none⟩ = some (.int .i64 0) := by rw [ho2.cellAt _ (by omega), hop, List.getElem?_append_right (by omega), hpl]; simp
      have f2 := ho2.frozenAt (k * 3 + 2)
      have HP := Lib.hid hop; have HL := Lib.hid hpl; have HO := Lib.hid ho2; clear hop hpl ho2 ho
      go_wp2
      have e := HO.out
      rw [HP.out] at e
      have e' := stored3 (A := (xs.take k).flatMap Ton.cells) e HL.out (.int .i64 xs[k].note) (.int .i64 xs[k].start) (.int .i64 xs[k].len)
      rw [← partTon_step xs k hlt] at e'
      exact ⟨⟨k + 1, by omega, by go_num, e'.1, (hb.trans (hb2.mono hb.size)).grown e'.2 (by have := hb.size; have := hb2.size; omega) (by intro k hk; cases hk; exact Nat.le_refl _)⟩, by simp [intOf]; omega⟩
    · go_wp2
      go_ret
      exact ⟨_, rfl, by rw [← partTon_all xs k hlt]; exact ho, hb⟩

end Go.Proofs.Ytemmnjokojgjaaa
/- Contracts of the laws' helpers over slices of Tone: equality, marks; slices.Equal. -/
set_option linter.unusedSimpArgs false
set_option linter.unnecessarySimpa false
set_option linter.unusedVariables false
namespace Go.Proofs.Ytemmnjokojgjaaa
open Go.RowKit

set_option maxHeartbeats 400000 in
theorem eqTons_any (v1 v2 : Value) (xs ys : List Ton) (w : World) (h1 : Tons w v1 xs) (h2 : Tons w v2 ys) :
    Calls Try.prog 46 #[v1, v2] w fun e w' => e = .returned (.bool (decide (xs = ys))) ∧ Below w.heap.size w w' := by
  obtain ⟨a, ca, rfl, hca, hcm, _⟩ := id h1
  obtain ⟨b, cb, rfl, _, _, _⟩ := id h2
  by_cases hl : xs.length = ys.length
  · have hm : xs.length ≤ maxLen := by omega
    clear hca hcm
    unfold maxLen at hm
    have hl1 : ((xs.length : Int) != (ys.length : Int)) = false := by rw [hl]; simp
    have HL := Lib.hid hl; clear hl
    go_enter Try.func46, Try.ntmps46
    go_wp2
    go_loopw [5] (fun i wr => ∃ k : Nat, k ≤ xs.length ∧ i = .int .i64 k ∧ xs.take k = ys.take k ∧ Below w.heap.size w wr) (fun i _ => xs.length - (intOf i).toNat)
    case atStart => exact ⟨0, Nat.zero_le _, rfl, by simp, Below.refl _ _⟩
    case round =>
      obtain ⟨k, hk, rfl, ht, hb⟩ := hrel
      have HT := Lib.hid ht; clear ht
      by_cases hlt : k < xs.length
      · have hk2 : k < ys.length := by rw [← HL.out]; exact hlt
        obtain ⟨b1, o1, rfl, hB1, c0, c1, c2⟩ := (h1.mono hb).at hlt
        obtain ⟨b2, o2, rfl, hB2, d0, d1, d2⟩ := (h2.mono hb).at hk2

        go_wp2
        refine wp_region_ord [(0, true), (1, true), (2, true), (3, true), (4, true), (5, true), (6, true), (7, true), (8, false), (9, true)] (none) (by kernel_rfl) (by kernel_rfl) ?_
        (repeat (with_reducible refine wpOrd_soft (fun K hK => ?_); simp only [List.getElem?_toArray, List.getElem?_cons_zero, List.getElem?_cons_succ]; first | (go_simp; refine hK _ ?_) | (simp only [undef]; go_simp; refine hK _ ?_); clear hK K))
        (with_reducible refine wpOrd_hard ?_; simp only [List.getElem?_toArray, List.getElem?_cons_zero, List.getElem?_cons_succ])
        go_wp2_with fail
        refine (eqTon_any xs[k] ys[k] _).mono ?_
        rintro e w2 ⟨rfl, hb2⟩
        have hbr : Below wr.heap.size wr w2 := undrew hb2
        have hb3 : Below w.heap.size w w2 := hb.trans (hbr.mono hb.size)
        by_cases he : xs[k] = ys[k]
        rotate_left
        all_goals
          have HE := Lib.hid he
          first | have hd : decide (xs[k] = ys[k]) = false := by simpa using he
                | have hd : decide (xs[k] = ys[k]) = true := by simpa using he
          clear he
          go_wp2
          refine ⟨grown_of_below hbr, ?_⟩
          (repeat (with_reducible refine wpOrd_soft (fun K hK => ?_); simp only [List.getElem?_toArray, List.getElem?_cons_zero, List.getElem?_cons_succ]; first | (go_simp; refine hK _ ?_) | (simp only [undef]; go_simp; refine hK _ ?_); clear hK K))
          (with_reducible refine wpOrd_nil ?_); refine NoPanic.normal ?_
        · go_wp2
          go_ret
          exact ⟨ret_bool (by simpa using ne_of_get hlt hk2 (by simpa using HE.out)), hb3⟩
        · go_wp2
          go_roundw
          case rel => exact ⟨k + 1, by omega, by go_num, take_step hlt hk2 HT.out (by simpa using HE.out), hb3⟩
          case measure => simp [intOf]; omega
      · go_wp2
        go_ret
        exact ⟨ret_bool (by simpa using eq_of_take HL.out hlt HT.out), hb⟩
  · have hl1 : ((xs.length : Int) != (ys.length : Int)) = true := by simp; omega
    have hne : xs ≠ ys := fun e => hl (by rw [e])
    clear hl
    go_enter Try.func46, Try.ntmps46
    go_wp2
    go_ret
    exact ⟨ret_bool (by simpa using hne), Below.refl _ _⟩

set_option maxHeartbeats 400000 in
theorem markTons_any (v : Value) (n base : Nat) (te : TypeId) (cs : List Value) (k : Nat) (w : World) (ho : w.ownsRow base te 3 v n cs) (hk : k + 3 * n ≤ 1000000000) :
    Calls Try.prog 47 #[v, .int .i64 k] w fun e w' => e = .returned (.int .i64 ↑(k + n * 3)) ∧ w'.ownsRow base te 3 v n (marks k (n * 3)) ∧ w.grownBy w' v.ownBlock := by
  rcases id ho with ⟨hl, ⟨rfl, rfl⟩ | ⟨g, cap, cur, rfl, hbase, hg, hn, hc, hs, ht⟩⟩
  · have hcs : cs = [] := by simpa using hl
    subst hcs
    go_enter Try.func47, Try.ntmps47
    go_wp2
    refine wp_loop_rounds 1 ?_
    rw [rounds_succ]
    go_wp2
    go_ret
    exact ⟨by simp, by simpa [marks] using ho, World.grownBy.refl _ _⟩
  · clear hg ht hs
    unfold maxLen at hc
    have HL := Lib.hid hl; clear hl
    go_enter Try.func47, Try.ntmps47
    go_wp2
    go_loopw [1, 5] (fun q i wr => ∃ t : Nat, t ≤ n ∧ i = .int .i64 t ∧ q = .int .i64 ↑(k + t * 3) ∧ wr.ownsRow base te 3 (.slice (some ⟨g, 0, none⟩) n cap) n (marks k (t * 3) ++ cs.drop (t * 3)) ∧ w.grownBy wr (some g)) (fun _ i _ => n - (intOf i).toNat)
    case atStart => exact ⟨0, Nat.zero_le _, rfl, by simp, by simpa [marks] using ho, World.grownBy.refl _ _⟩
    case round =>
      obtain ⟨t, ht, rfl, rfl, hw, hg⟩ := hrel
      by_cases hlt : t < n
      · have hlen := HL.out
        have x0 : (marks k (t * 3) ++ cs.drop (t * 3))[t * 3]? = some (cs.getD (t * 3 + 0) .nilFunc) := marks_at _ _ _ 0 (by rw [hlen]; omega)
        have d0 : wr.cell? ⟨g, t * 3, none⟩ = some (cs.getD (t * 3 + 0) .nilFunc) := by rw [hw.cellAt _ (by omega)]; exact x0
        have f0 := hw.frozenAt (t * 3)
        have x1 : (marks k (t * 3) ++ cs.drop (t * 3))[t * 3 + 1]? = some (cs.getD (t * 3 + 1) .nilFunc) := marks_at _ _ _ 1 (by rw [hlen]; omega)
        have d1 : wr.cell? ⟨g, t * 3 + 1, none⟩ = some (cs.getD (t * 3 + 1) .nilFunc) := by rw [hw.cellAt _ (by omega)]; exact x1
        have f1 := hw.frozenAt (t * 3 + 1)
        have x2 : (marks k (t * 3) ++ cs.drop (t * 3))[t * 3 + 2]? = some (cs.getD (t * 3 + 2) .nilFunc) := marks_at _ _ _ 2 (by rw [hlen]; omega)
        have d2 : wr.cell? ⟨g, t * 3 + 2, none⟩ = some (cs.getD (t * 3 + 2) .nilFunc) := by rw [hw.cellAt _ (by omega)]; exact x2
        have f2 := hw.frozenAt (t * 3 + 2)
        have HW := Lib.hid hw
        clear hw hlen x0 x1 x2
        go_wp2
        have hlen := HL.out
        have q0 := HW.out
        have q1 := (q0).stored (t * 3) (.int .i64 ↑(k + (t * 3)))
        rw [marks_set k (t * 3) cs (by rw [hlen]; omega)] at q1
        have q2 := (q1.1).stored (t * 3 + 1) (.int .i64 ↑(k + (t * 3 + 1)))
        rw [marks_set k (t * 3 + 1) cs (by rw [hlen]; omega)] at q2
        have q3 := (q2.1).stored (t * 3 + 2) (.int .i64 ↑(k + (t * 3 + 2)))
        rw [marks_set k (t * 3 + 2) cs (by rw [hlen]; omega)] at q3
        have z0 : ((k + (t * 3) : Nat) : Int) = (k : Int) + (t : Int) * 3 := by omega
        have z1 : ((k + (t * 3 + 1) : Nat) : Int) = (k : Int) + (t : Int) * 3 + 1 := by omega
        have z2 : ((k + (t * 3 + 2) : Nat) : Int) = (k : Int) + (t : Int) * 3 + 1 + 1 := by omega
        simp only [z0, z1, z2] at q3 q1 q2
        exact ⟨⟨t + 1, by omega, by go_num, by congr 1; omega, by rw [show (t + 1) * 3 = t * 3 + 3 by omega]; exact q3.1, grown_trans hg (grown_trans q1.2 (grown_trans q2.2 q3.2))⟩, by simp [intOf]; omega⟩
      · go_wp2
        go_ret
        obtain rfl : t = n := by omega
        exact ⟨rfl, by have := hw; rw [List.drop_of_length_le (by rw [HL.out]; omega), List.append_nil] at this; exact this, hg⟩

set_option maxHeartbeats 400000 in
theorem heldTons_any (v : Value) (n k : Nat) (w : World) (h : Sl w v n (marks k (n * 3))) (hk : k + 3 * n ≤ 1000000000) :
    Calls Try.prog 48 #[v, .int .i64 k] w fun e w' => e = .returned (.int .i64 ↑(k + n * 3)) ∧ w' = w := by
  obtain ⟨a, cap, rfl, hn, hc, _⟩ := id h
  have hm : n ≤ 1000000000 := by omega
  clear hn hc
  go_enter Try.func48, Try.ntmps48
  go_wp2
  go_loop [1, 5] (fun q i => ∃ t : Nat, t ≤ n ∧ i = .int .i64 t ∧ q = .int .i64 ↑(k + t * 3)) (fun _ i => n - (intOf i).toNat)
  case atStart => exact ⟨0, Nat.zero_le _, rfl, by simp⟩
  case round =>
    obtain ⟨t, ht, rfl, rfl⟩ := hrel
    by_cases hlt : t < n
    · obtain ⟨b, off, rfl, c⟩ := h.cells (by rw [marks_len]; omega)
      have c0 : w.cell? ⟨b, off + t * 3, none⟩ = some (.int .i64 ((k : Int) + (t : Int) * 3)) := by have := c (t * 3 + 0) _ (marks_get k _ _ (by omega)); rw [show ((k + (t * 3 + 0) : Nat) : Int) = (k : Int) + (t : Int) * 3 by omega] at this; simpa [Nat.add_assoc] using this
      have c1 : w.cell? ⟨b, off + t * 3 + 1, none⟩ = some (.int .i64 ((k : Int) + (t : Int) * 3 + 1)) := by have := c (t * 3 + 1) _ (marks_get k _ _ (by omega)); rw [show ((k + (t * 3 + 1) : Nat) : Int) = (k : Int) + (t : Int) * 3 + 1 by omega] at this; simpa [Nat.add_assoc] using this
      have c2 : w.cell? ⟨b, off + t * 3 + 2, none⟩ = some (.int .i64 ((k : Int) + (t : Int) * 3 + 1 + 1)) := by have := c (t * 3 + 2) _ (marks_get k _ _ (by omega)); rw [show ((k + (t * 3 + 2) : Nat) : Int) = (k : Int) + (t : Int) * 3 + 1 + 1 by omega] at this; simpa [Nat.add_assoc] using this
      clear c
      go_wp2
      exact ⟨⟨t + 1, by omega, by go_num, by congr 1; omega⟩, by simp [intOf]; omega⟩
    · go_wp2
      go_ret
      obtain rfl : t = n := by omega
      exact ⟨rfl, rfl⟩

end Go.Proofs.Ytemmnjokojgjaaa
/- Contracts of the laws' helpers over one tune: copy, equality, size, marks. -/
set_option linter.unusedSimpArgs false
set_option linter.unnecessarySimpa false
set_option linter.unusedVariables false
namespace Go.Proofs.Ytemmnjokojgjaaa
open Go.RowKit

structure TunD where
  name : ByteArray
  tones : List Ton
  deriving DecidableEq

theorem TunD.ext_iff' (x y : TunD) : x = y ↔ x.name = y.name ∧ x.tones = y.tones := by cases x; cases y; simp [TunD.mk.injEq]

theorem str_inj {a b : ByteArray} (h : a.toList = b.toList) : a = b := by
  rw [ByteArray.toList_eq, ByteArray.toList_eq] at h
  cases a; cases b; simp only at h
  congr 1
  exact Array.toList_inj.1 h
theorem str_beq (a b : ByteArray) : (a.toList == b.toList) = decide (a = b) := by
  by_cases h : a = b
  · subst h; simp
  · have : a.toList ≠ b.toList := fun e => h (str_inj e)
    simp [h, this]

theorem tun_true {x y : TunD} (h1 : x.name = y.name) (h2 : x.tones = y.tones) : true = decide (x = y) := by
  symm; apply decide_eq_true; rw [TunD.ext_iff']; exact ⟨h1, h2⟩
theorem tun_false {x y : TunD} (h : ¬ (x.name = y.name ∧ x.tones = y.tones)) : false = decide (x = y) := by
  symm; apply decide_eq_false; rw [TunD.ext_iff']; exact h

/-- All numbers of a tune are int64; its name is no longer than a string can be. -/
def TunD.ok (x : TunD) : Prop := x.name.size ≤ maxLen ∧ ∀ l ∈ x.tones, I64 l.note ∧ I64 l.start ∧ I64 l.len

/-- v is a tune that reads as x, its tones lying at lv. -/
def Tun (w : World) (v : Value) (lv : Value) (x : TunD) : Prop := v = .agg #[.string x.name, lv] ∧ Tons w lv x.tones

theorem Tun.mono {w w' : World} {v lv : Value} {x : TunD} (h : Tun w v lv x) (hb : Below w.heap.size w w') : Tun w' v lv x := ⟨h.1, h.2.mono hb⟩

/-- What is left of a size. -/
def leftTun (left : Int) (x : TunD) : Int := if left < x.name.size + x.tones.length then -1 else left - x.name.size - x.tones.length

set_option maxHeartbeats 400000 in
theorem szTun_any (v lv : Value) (x : TunD) (left : Int) (w : World) (h : Tun w v lv x) (hn : x.name.size ≤ maxLen) (h0 : 0 ≤ left) (hl : left ≤ 1048576) :
    Calls Try.prog 8 #[v, .int .i64 left] w fun e w' => e = .returned (.int .i64 (leftTun left x)) ∧ Below w.heap.size w w' := by
  obtain ⟨rfl, hlv⟩ := h
  obtain ⟨a, cap, rfl, hn', hc, _⟩ := id hlv
  unfold maxLen at hn
  by_cases g1 : left < x.name.size
  · have e1 : left - (x.name.size : Int) < 0 := by omega
    have er : leftTun left x = -1 := if_pos (by omega)
    have ER := Lib.hid er; clear er
    go_enter Try.func8, Try.ntmps8
    go_wp2
    go_ret
    refine ⟨by rw [ER.out]; rfl, ?_⟩
    (repeat (first | with_reducible exact Below.refl _ _ | with_reducible exact hbw | (with_reducible refine Below.setCell ?_ ?_ _; rotate_left; · first | exact Nat.le_refl _ | omega | (simp; done) | (simp; omega)) | (with_reducible refine Below.alloc ?_ ?_ _; rotate_left; · first | exact Nat.le_refl _ | omega | (simp; done) | (simp; omega)) | with_reducible refine below_drewN ?_ _ | with_reducible refine Below.drew ?_))
  · have e1 : ¬ left - (x.name.size : Int) < 0 := by omega
    by_cases g2 : left - x.name.size < x.tones.length
    · have er : leftTun left x = -1 := if_pos (by omega)
      have ER := Lib.hid er; clear er
      go_enter Try.func8, Try.ntmps8
      go_wp2_with fail
      refine (szTons_any _ x.tones x.tones.length (left - x.name.size) _ ⟨a, cap, rfl⟩ (by omega) (by omega) (by omega)).mono ?_
      rw [if_pos (by omega)]
      rintro e w1 ⟨rfl, rfl⟩
      go_wp2
      go_ret
      refine ⟨by rw [ER.out]; rfl, ?_⟩
      (repeat (first | with_reducible exact Below.refl _ _ | with_reducible exact hbw | (with_reducible refine Below.setCell ?_ ?_ _; rotate_left; · first | exact Nat.le_refl _ | omega | (simp; done) | (simp; omega)) | (with_reducible refine Below.alloc ?_ ?_ _; rotate_left; · first | exact Nat.le_refl _ | omega | (simp; done) | (simp; omega)) | with_reducible refine below_drewN ?_ _ | with_reducible refine Below.drew ?_))
    · have er : leftTun left x = left - x.name.size - x.tones.length := if_neg (by omega)
      have ER := Lib.hid er; clear er
      go_enter Try.func8, Try.ntmps8
      go_wp2_with fail
      refine (szTons_any _ x.tones x.tones.length (left - x.name.size) _ ⟨a, cap, rfl⟩ (by omega) (by omega) (by omega)).mono ?_
      rw [if_neg (by omega)]
      rintro e w1 ⟨rfl, rfl⟩
      have e2 : ¬ left - (x.name.size : Int) - (x.tones.length : Int) < 0 := by omega
      go_wp2
      go_ret
      refine ⟨by rw [ER.out]; rfl, ?_⟩
      (repeat (first | with_reducible exact Below.refl _ _ | with_reducible exact hbw | (with_reducible refine Below.setCell ?_ ?_ _; rotate_left; · first | exact Nat.le_refl _ | omega | (simp; done) | (simp; omega)) | (with_reducible refine Below.alloc ?_ ?_ _; rotate_left; · first | exact Nat.le_refl _ | omega | (simp; done) | (simp; omega)) | with_reducible refine below_drewN ?_ _ | with_reducible refine Below.drew ?_))

set_option maxHeartbeats 400000 in
theorem toTun_any (v lv : Value) (x : TunD) (w : World) (h : Tun w v lv x) (hs : x.tones.length ≤ 1048576) :
    Calls Try.prog 10 #[v] w fun e w' => ∃ lv', e = .returned (.agg #[.string x.name, lv']) ∧ w'.ownsRow w.heap.size 92 3 lv' x.tones.length (x.tones.flatMap Ton.cells) ∧ Below w.heap.size w w' := by
  obtain ⟨rfl, hlv⟩ := h
  go_enter Try.func10, Try.ntmps10
  go_wp2_with fail
  refine (toTons_any lv x.tones _ (hlv.mono (by (repeat (first | with_reducible exact Below.refl _ _ | with_reducible exact hbw | (with_reducible refine Below.setCell ?_ ?_ _; rotate_left; · first | exact Nat.le_refl _ | omega | (simp; done) | (simp; omega)) | (with_reducible refine Below.alloc ?_ ?_ _; rotate_left; · first | exact Nat.le_refl _ | omega | (simp; done) | (simp; omega)) | with_reducible refine below_drewN ?_ _ | with_reducible refine Below.drew ?_)))) hs).mono ?_
  rintro e w1 ⟨lv', rfl, ho, hb⟩
  obtain ⟨a', cap', rfl⟩ := owns_slice ho
  obtain ⟨hc, hf⟩ := bcell hb
  have hz : w.heap.size + 1 + 1 < w1.heap.size := by have := hb.size; simp at this; omega
  go_wp2
  refine bodyPost_ret (v := .agg #[.string x.name, .slice a' x.tones.length cap']) (by simp [results, Try.results10, go_sem, hc, hz]) rfl ⟨_, rfl, ?_, ?_⟩
  · refine owns_base (base := w.heap.size + 1 + 1 + 1) ?_ (by omega)
    repeat (refine ownsRow_setCell_below ?_ (by first | (simp; done) | (simp; omega)) _)
    simpa using ho
  · have hbw : Below w.heap.size w w1 := Below.trans (by (repeat (first | with_reducible exact Below.refl _ _ | with_reducible exact hbw | (with_reducible refine Below.setCell ?_ ?_ _; rotate_left; · first | exact Nat.le_refl _ | omega | (simp; done) | (simp; omega)) | (with_reducible refine Below.alloc ?_ ?_ _; rotate_left; · first | exact Nat.le_refl _ | omega | (simp; done) | (simp; omega)) | with_reducible refine below_drewN ?_ _ | with_reducible refine Below.drew ?_))) (hb.mono (by simp <;> omega))
    (repeat (first | with_reducible exact Below.refl _ _ | with_reducible exact hbw | (with_reducible refine Below.setCell ?_ ?_ _; rotate_left; · first | exact Nat.le_refl _ | omega | (simp; done) | (simp; omega)) | (with_reducible refine Below.alloc ?_ ?_ _; rotate_left; · first | exact Nat.le_refl _ | omega | (simp; done) | (simp; omega)) | with_reducible refine below_drewN ?_ _ | with_reducible refine Below.drew ?_))

set_option maxHeartbeats 1000000 in
theorem eqTun_any (v1 l1 v2 l2 : Value) (x y : TunD) (w : World) (h1 : Tun w v1 l1 x) (h2 : Tun w v2 l2 y) :
    Calls Try.prog 13 #[v1, v2] w fun e w' => e = .returned (.bool (decide (x = y))) ∧ Below w.heap.size w w' := by
  obtain ⟨rfl, hl1⟩ := h1
  obtain ⟨rfl, hl2⟩ := h2
  by_cases e1 : x.name = y.name
  · have b1 : (x.name.toList == y.name.toList) = true := by rw [str_beq]; simpa using e1
    have E1 := Lib.hid e1; clear e1
    go_enter Try.func13, Try.ntmps13
    go_wp2_with fail
    refine (eqTons_any l1 l2 x.tones y.tones _ (hl1.mono (by (repeat (first | with_reducible exact Below.refl _ _ | with_reducible exact hbw | (with_reducible refine Below.setCell ?_ ?_ _; rotate_left; · first | exact Nat.le_refl _ | omega | (simp; done) | (simp; omega)) | (with_reducible refine Below.alloc ?_ ?_ _; rotate_left; · first | exact Nat.le_refl _ | omega | (simp; done) | (simp; omega)) | with_reducible refine below_drewN ?_ _ | with_reducible refine Below.drew ?_)))) (hl2.mono (by (repeat (first | with_reducible exact Below.refl _ _ | with_reducible exact hbw | (with_reducible refine Below.setCell ?_ ?_ _; rotate_left; · first | exact Nat.le_refl _ | omega | (simp; done) | (simp; omega)) | (with_reducible refine Below.alloc ?_ ?_ _; rotate_left; · first | exact Nat.le_refl _ | omega | (simp; done) | (simp; omega)) | with_reducible refine below_drewN ?_ _ | with_reducible refine Below.drew ?_))))).mono ?_
    rintro e w1 ⟨rfl, hb⟩
    have hbw : Below w.heap.size w w1 := Below.trans (by (repeat (first | with_reducible exact Below.refl _ _ | with_reducible exact hbw | (with_reducible refine Below.setCell ?_ ?_ _; rotate_left; · first | exact Nat.le_refl _ | omega | (simp; done) | (simp; omega)) | (with_reducible refine Below.alloc ?_ ?_ _; rotate_left; · first | exact Nat.le_refl _ | omega | (simp; done) | (simp; omega)) | with_reducible refine below_drewN ?_ _ | with_reducible refine Below.drew ?_))) (hb.mono (by simp <;> omega))
    clear hb
    by_cases e2 : x.tones = y.tones
    · have b2 : decide (x.tones = y.tones) = true := by simpa using e2
      have E2 := Lib.hid e2; clear e2
      go_wp2
      go_ret
      exact ⟨ret_bool (tun_true E1.out E2.out), hbw⟩
    · have b2 : decide (x.tones = y.tones) = false := by simpa using e2
      have E2 := Lib.hid e2; clear e2
      go_wp2
      go_ret
      exact ⟨ret_bool (tun_false fun h => E2.out h.2), hbw⟩
  · have b1 : (x.name.toList == y.name.toList) = false := by rw [str_beq]; simpa using e1
    have E1 := Lib.hid e1; clear e1
    go_enter Try.func13, Try.ntmps13
    go_wp2
    go_ret
    refine ⟨ret_bool (tun_false fun h => E1.out h.1), ?_⟩
    (repeat (first | with_reducible exact Below.refl _ _ | with_reducible exact hbw | (with_reducible refine Below.setCell ?_ ?_ _; rotate_left; · first | exact Nat.le_refl _ | omega | (simp; done) | (simp; omega)) | (with_reducible refine Below.alloc ?_ ?_ _; rotate_left; · first | exact Nat.le_refl _ | omega | (simp; done) | (simp; omega)) | with_reducible refine below_drewN ?_ _ | with_reducible refine Below.drew ?_))

set_option maxHeartbeats 400000 in
theorem markTun_any (lv : Value) (nm : ByteArray) (n base k : Nat) (te : TypeId) (cs : List Value) (w : World) (ho : w.ownsRow base te 3 lv n cs) (hk : k + 3 * n ≤ 1000000000) :
    Calls Try.prog 15 #[.agg #[.string nm, lv], .int .i64 k] w fun e w' => e = .returned (.int .i64 ↑(k + n * 3)) ∧ w'.ownsRow base te 3 lv n (marks k (n * 3)) ∧ w.grownBy w' lv.ownBlock := by
  obtain ⟨a, cap, rfl⟩ := owns_slice ho
  go_enter Try.func15, Try.ntmps15
  go_wp2_with fail
  refine (markTons_any _ n base te cs k _ (ho.alloc _) hk).mono ?_
  rintro e w1 ⟨rfl, ho1, hg⟩
  go_wp2
  go_ret
  exact ⟨rfl, ho1, grown_trans (World.grownBy_alloc _ _ _) hg⟩

set_option maxHeartbeats 400000 in
theorem heldTun_any (lv : Value) (nm : ByteArray) (n k : Nat) (w : World) (h : Sl w lv n (marks k (n * 3))) (hk : k + 3 * n ≤ 1000000000) :
    Calls Try.prog 17 #[.agg #[.string nm, lv], .int .i64 k] w fun e w' => e = .returned (.int .i64 ↑(k + n * 3)) ∧ Below w.heap.size w w' := by
  obtain ⟨a, cap, rfl, _, _, _⟩ := id h
  have hz : ¬ ((k : Int) + (n : Int) * 3 < 0) := by omega
  go_enter Try.func17, Try.ntmps17
  go_wp2_with fail
  refine (heldTons_any _ n k _ (h.mono (by (repeat (first | with_reducible exact Below.refl _ _ | with_reducible exact hbw | (with_reducible refine Below.setCell ?_ ?_ _; rotate_left; · first | exact Nat.le_refl _ | omega | (simp; done) | (simp; omega)) | (with_reducible refine Below.alloc ?_ ?_ _; rotate_left; · first | exact Nat.le_refl _ | omega | (simp; done) | (simp; omega)) | with_reducible refine below_drewN ?_ _ | with_reducible refine Below.drew ?_)))) hk).mono ?_
  rintro e w1 ⟨rfl, rfl⟩
  go_wp2
  go_ret
  refine ⟨rfl, ?_⟩
  (repeat (first | with_reducible exact Below.refl _ _ | with_reducible exact hbw | (with_reducible refine Below.setCell ?_ ?_ _; rotate_left; · first | exact Nat.le_refl _ | omega | (simp; done) | (simp; omega)) | (with_reducible refine Below.alloc ?_ ?_ _; rotate_left; · first | exact Nat.le_refl _ | omega | (simp; done) | (simp; omega)) | with_reducible refine below_drewN ?_ _ | with_reducible refine Below.drew ?_))

/-- A tune lies in block b, its tones at lv. -/
structure TunAt (w : World) (b : Nat) (lv : Value) (x : TunD) : Prop where
  c0 : w.cell? ⟨b, 0, none⟩ = some (.string x.name)
  c1 : w.cell? ⟨b, 1, none⟩ = some lv
  tones : Tons w lv x.tones

set_option maxHeartbeats 1000000 in
theorem l25Same_any (b1 b2 : Nat) (l1 l2 : Value) (x y : TunD) (w : World) (h1 : TunAt w b1 l1 x) (h2 : TunAt w b2 l2 y) :
    Calls Try.prog 71 #[.pointer (some ⟨b1, 0, none⟩), .pointer (some ⟨b2, 0, none⟩)] w fun e w' => e = .returned (.bool (decide (x = y))) ∧ Below w.heap.size w w' := by
  obtain ⟨c0, c1, hl1⟩ := h1
  obtain ⟨d0, d1, hl2⟩ := h2
  obtain ⟨a, ca, rfl, hca, hcm, _⟩ := id hl1
  obtain ⟨b, cb, rfl, _, _, _⟩ := id hl2
  have hm : x.tones.length ≤ maxLen := by omega
  clear hca hcm
  unfold maxLen at hm
  by_cases e1 : x.name = y.name
  · have b_1 : (x.name.toList == y.name.toList) = true := by rw [str_beq]; simpa using e1
    have E1 := Lib.hid e1; clear e1
    by_cases hl : x.tones.length = y.tones.length
    · have b5 : ((x.tones.length : Int) != (y.tones.length : Int)) = false := by rw [hl]; simp
      have HL := Lib.hid hl; clear hl
      go_enter Try.func71, Try.ntmps71
      go_wp2
      go_quiet (fail)
      go_wp2
      go_loopw [5] (fun i wr => ∃ k : Nat, k ≤ x.tones.length ∧ i = .int .i64 k ∧ x.tones.take k = y.tones.take k ∧ Q w wr) (fun i _ => x.tones.length - (intOf i).toNat)
      case atStart => exact ⟨0, Nat.zero_le _, rfl, by simp, ⟨_, rfl⟩⟩
      case round =>
        obtain ⟨k, hk, rfl, ht, hq⟩ := hrel
        have HT := Lib.hid ht; clear ht
        have hc1 : wr.cell? ⟨b1, 1, none⟩ = some (.slice a x.tones.length ca) := (hq.cell _).trans c1
        have hd1 : wr.cell? ⟨b2, 1, none⟩ = some (.slice b y.tones.length cb) := (hq.cell _).trans d1
        by_cases hlt : k < x.tones.length
        · have hk2 : k < y.tones.length := by rw [← HL.out]; exact hlt
          obtain ⟨b3, o3, rfl, hB3, u0, u1, u2⟩ := (hl1.q hq).at hlt
          obtain ⟨b4, o4, rfl, hB4, v0, v1, v2⟩ := (hl2.q hq).at hk2
          by_cases g : x.tones[k] = y.tones[k]
          · obtain ⟨g0, g1, g2⟩ := (Ton.ext_iff' _ _).1 g
            have f0 : (x.tones[k].note == y.tones[k].note) = true := by simpa using g0
            have f1 : (x.tones[k].start == y.tones[k].start) = true := by simpa using g1
            have f2 : (x.tones[k].len == y.tones[k].len) = true := by simpa using g2
            have GE := Lib.hid g; clear g g0 g1 g2
            go_wp2
            go_quiet (fail)
            go_wp2
            go_roundw
            case rel => exact ⟨k + 1, by omega, by go_num, take_step hlt hk2 HT.out (by simpa using GE.out), hq.drewN _⟩
            case measure => simp [intOf]; omega
          · have GE := Lib.hid (show ¬ x.tones = y.tones from ne_of_get hlt hk2 (by simpa using g))
            rw [Ton.ext_iff'] at g
            by_cases g0 : x.tones[k].note = y.tones[k].note
            · have f0 : (x.tones[k].note == y.tones[k].note) = true := by simpa using g0
              by_cases g1 : x.tones[k].start = y.tones[k].start
              · have f1 : (x.tones[k].start == y.tones[k].start) = true := by simpa using g1
                have f2 : (x.tones[k].len == y.tones[k].len) = false := by simpa using fun g2 => g ⟨g0, g1, g2⟩
                clear g g0 g1
                go_wp2
                go_quiet (fail)
                go_wp2
                go_ret
                exact ⟨ret_bool (tun_false fun h => GE.out h.2), (hq.drewN _).below _⟩
              · have f1 : (x.tones[k].start == y.tones[k].start) = false := by simpa using g1
                clear g g0 g1
                go_wp2
                go_quiet (fail)
                go_wp2
                go_ret
                exact ⟨ret_bool (tun_false fun h => GE.out h.2), (hq.drewN _).below _⟩
            · have f0 : (x.tones[k].note == y.tones[k].note) = false := by simpa using g0
              clear g g0
              go_wp2
              go_quiet (fail)
              go_wp2
              go_ret
              exact ⟨ret_bool (tun_false fun h => GE.out h.2), (hq.drewN _).below _⟩
        · go_wp2
          go_ret
          exact ⟨ret_bool (tun_true E1.out (eq_of_take HL.out hlt HT.out)), hq.below _⟩
    · have b5 : ((x.tones.length : Int) != (y.tones.length : Int)) = true := by simp; omega
      have EX := Lib.hid hl; clear hl
      go_enter Try.func71, Try.ntmps71
      go_wp2
      go_quiet (fail)
      go_wp2
      go_ret
      exact ⟨ret_bool (tun_false fun h => EX.out (by rw [h.2])), below_drewN (Below.refl _ _) _⟩
  · have b_1 : (x.name.toList == y.name.toList) = false := by rw [str_beq]; simpa using e1
    have E1 := Lib.hid e1; clear e1
    go_enter Try.func71, Try.ntmps71
    go_wp2
    go_quiet (fail)
    go_wp2
    go_ret
    exact ⟨ret_bool (tun_false fun h => E1.out h.1), below_drewN (Below.refl _ _) _⟩

set_option maxHeartbeats 400000 in
theorem specSameTun_any (v1 l1 v2 l2 : Value) (x y : TunD) (w : World) (h1 : Tun w v1 l1 x) (h2 : Tun w v2 l2 y) :
    Calls Try.prog 39 #[v1, v2] w fun e w' => e = .returned (.bool (decide (x = y))) ∧ Below w.heap.size w w' := by
  obtain ⟨rfl, hl1⟩ := h1
  obtain ⟨rfl, hl2⟩ := h2
  go_enter Try.func39, Try.ntmps39
  go_wp2_with fail
  refine (l25Same_any _ _ l1 l2 x y _ ⟨by simp [go_sem], by simp [go_sem], hl1.mono (by (repeat (first | with_reducible exact Below.refl _ _ | with_reducible exact hbw | (with_reducible refine Below.setCell ?_ ?_ _; rotate_left; · first | exact Nat.le_refl _ | omega | (simp; done) | (simp; omega)) | (with_reducible refine Below.alloc ?_ ?_ _; rotate_left; · first | exact Nat.le_refl _ | omega | (simp; done) | (simp; omega)) | with_reducible refine below_drewN ?_ _ | with_reducible refine Below.drew ?_)))⟩ ⟨by simp [go_sem], by simp [go_sem], hl2.mono (by (repeat (first | with_reducible exact Below.refl _ _ | with_reducible exact hbw | (with_reducible refine Below.setCell ?_ ?_ _; rotate_left; · first | exact Nat.le_refl _ | omega | (simp; done) | (simp; omega)) | (with_reducible refine Below.alloc ?_ ?_ _; rotate_left; · first | exact Nat.le_refl _ | omega | (simp; done) | (simp; omega)) | with_reducible refine below_drewN ?_ _ | with_reducible refine Below.drew ?_)))⟩).mono ?_
  rintro e w1 ⟨rfl, hb⟩
  have hbw : Below w.heap.size w w1 := Below.trans (by (repeat (first | with_reducible exact Below.refl _ _ | with_reducible exact hbw | (with_reducible refine Below.setCell ?_ ?_ _; rotate_left; · first | exact Nat.le_refl _ | omega | (simp; done) | (simp; omega)) | (with_reducible refine Below.alloc ?_ ?_ _; rotate_left; · first | exact Nat.le_refl _ | omega | (simp; done) | (simp; omega)) | with_reducible refine below_drewN ?_ _ | with_reducible refine Below.drew ?_))) (hb.mono (by simp <;> omega))
  clear hb
  go_wp2
  go_ret
  exact ⟨rfl, hbw⟩

end Go.Proofs.Ytemmnjokojgjaaa
/- The laws' helpers over one tune, in the form that the laws' walks take. -/
set_option linter.unusedSimpArgs false
set_option linter.unnecessarySimpa false
set_option linter.unusedVariables false
namespace Go.Proofs.Ytemmnjokojgjaaa
open Go.RowKit

def RdTun (w : World) (v : Value) (x : TunD) : Prop := ∃ lv, Tun w v lv x
def OwnTun (B E : Nat) (w : World) (v : Value) (x : TunD) : Prop := ∃ lv, v = .agg #[.string x.name, lv] ∧ OwnRow B E w 92 3 lv x.tones.length (x.tones.flatMap Ton.cells)
def MkTun (B E : Nat) (w : World) (v : Value) (x : TunD) (k : Int) : Prop := ∃ lv, v = .agg #[.string x.name, lv] ∧ OwnRow B E w 92 3 lv x.tones.length (marksI k (x.tones.length * 3))
section
variable {B E B' E' : Nat} {w w' : World} {v : Value} {x : TunD} {k : Int}
theorem RdTun.mono (h : RdTun w v x) (hb : Below w.heap.size w w') : RdTun w' v x := h.imp fun _ h => h.mono hb
theorem OwnTun.mono (h : OwnTun B E w v x) (hb : Below w.heap.size w w') : OwnTun B E w' v x := h.imp fun _ h => ⟨h.1, h.2.mono hb⟩
theorem OwnTun.touch (h : OwnTun B E w v x) (t : Touch B' E' w w') (hd : E ≤ B' ∨ E' ≤ B) : OwnTun B E w' v x := h.imp fun _ h => ⟨h.1, h.2.touch t hd⟩
theorem OwnTun.rd (h : OwnTun B E w v x) : RdTun w v x := h.imp fun _ h => ⟨h.1, h.2.sl⟩
theorem OwnTun.form (h : OwnTun B E w v x) : ∃ a cap, v = .agg #[.string x.name, .slice a x.tones.length cap] := by
  obtain ⟨lv, rfl, h⟩ := h
  obtain ⟨a, cap, rfl⟩ := h.form
  exact ⟨a, cap, rfl⟩
theorem OwnTun.wide (h : OwnTun B E w v x) (hB : B' ≤ B) (hE : E ≤ E') : OwnTun B' E' w v x := h.imp fun _ h => ⟨h.1, h.2.wide hB hE⟩
theorem MkTun.mono (h : MkTun B E w v x k) (hb : Below w.heap.size w w') : MkTun B E w' v x k := h.imp fun _ h => ⟨h.1, h.2.mono hb⟩
theorem MkTun.touch (h : MkTun B E w v x k) (t : Touch B' E' w w') (hd : E ≤ B' ∨ E' ≤ B) : MkTun B E w' v x k := h.imp fun _ h => ⟨h.1, h.2.touch t hd⟩
end

theorem toTunK (v : Value) (x : TunD) (w : World) (h : RdTun w v x) (hs : x.tones.length ≤ 1048576) :
    Calls Try.prog 10 #[v] w fun e w' => ∃ v', e = .returned v' ∧ OwnTun w.heap.size w'.heap.size w' v' x ∧ Below w.heap.size w w' := by
  obtain ⟨lv, h⟩ := h
  exact (toTun_any v lv x w h hs).mono fun e w' ⟨lv', he, ho, hb⟩ => ⟨_, he, ⟨lv', rfl, OwnRow.mk' ho⟩, hb⟩
theorem eqTunK (v1 v2 : Value) (x : TunD) (w : World) (h1 : RdTun w v1 x) (h2 : RdTun w v2 x) :
    Calls Try.prog 13 #[v1, v2] w fun e w' => e = .returned (.bool true) ∧ Below w.heap.size w w' := by
  obtain ⟨l1, h1⟩ := h1
  obtain ⟨l2, h2⟩ := h2
  exact (eqTun_any v1 l1 v2 l2 x x w h1 h2).mono fun e w' ⟨he, hb⟩ => ⟨by rw [he]; simp, hb⟩
theorem markTunK (B E : Nat) (v : Value) (x : TunD) (k : Int) (w : World) (h : OwnTun B E w v x) (h0 : 0 ≤ k) (hk : k + x.tones.length * 3 ≤ 1000000000) :
    Calls Try.prog 15 #[v, .int .i64 k] w fun e w' => e = .returned (.int .i64 (k + x.tones.length * 3)) ∧ MkTun B E w' v x k ∧ Touch B E w w' := by
  obtain ⟨j, rfl⟩ := Int.eq_ofNat_of_zero_le h0
  obtain ⟨lv, rfl, h⟩ := h
  refine (markTun_any lv x.name x.tones.length B j _ _ w h.1 (by omega)).mono fun e w' ⟨he, ho, hg⟩ => ⟨by rw [he]; congr 2 <;> omega, ⟨lv, rfl, by rw [marksI_nat]; exact ho, h.2⟩, Touch.of_grown hg fun k hk => ⟨(h.1.lt k hk).1, h.2 k hk⟩⟩
theorem heldTunK (B E : Nat) (v : Value) (x : TunD) (k : Int) (w : World) (h : MkTun B E w v x k) (h0 : 0 ≤ k) (hk : k + x.tones.length * 3 ≤ 1000000000) :
    Calls Try.prog 17 #[v, .int .i64 k] w fun e w' => e = .returned (.int .i64 (k + x.tones.length * 3)) ∧ Below w.heap.size w w' := by
  obtain ⟨j, rfl⟩ := Int.eq_ofNat_of_zero_le h0
  obtain ⟨lv, rfl, h⟩ := h
  refine (heldTun_any lv x.name x.tones.length j w (by rw [← marksI_nat]; exact OwnRow.sl h) (by omega)).mono fun e w' ⟨he, hb⟩ => ⟨by rw [he]; congr 2 <;> omega, hb⟩

end Go.Proofs.Ytemmnjokojgjaaa
/- Contracts of validTone, compareTones, l25Tone, l25Before. -/
set_option linter.unusedSimpArgs false
set_option linter.unnecessarySimpa false
set_option linter.unusedVariables false
namespace Go.Proofs.Ytemmnjokojgjaaa
open Go.RowKit

def noteOk (n : Int) : Prop := 0 ≤ n ∧ n ≤ 127
instance (n : Int) : Decidable (noteOk n) := by unfold noteOk; infer_instance
structure TonOk (x : Ton) : Prop where
  note : noteOk x.note
  start : 0 ≤ x.start ∧ x.start ≤ 20000
  len : 1 ≤ x.len ∧ x.len ≤ 20000 - x.start
theorem TonOk.iff' (x : Ton) : TonOk x ↔ noteOk x.note ∧ (0 ≤ x.start ∧ x.start ≤ 20000) ∧ (1 ≤ x.len ∧ x.len ≤ 20000 - x.start) := ⟨fun h => ⟨h.1, h.2, h.3⟩, fun h => ⟨h.1, h.2.1, h.2.2⟩⟩
instance (x : Ton) : Decidable (TonOk x) := decidable_of_iff' _ (TonOk.iff' x)
def before (x y : Ton) : Prop := x.start < y.start ∨ (x.start = y.start ∧ x.note < y.note)
instance (x y : Ton) : Decidable (before x y) := by unfold before; infer_instance

theorem isNote_any (b : Bool) (n : Int) (w : World) (h : b = decide (noteOk n)) :
    Calls Try.prog 90 #[.int .i64 n] w fun e w' => e = .returned (.bool b) ∧ w' = w := by
  have H := Lib.hid h; clear h
  go_enter Try.func90, Try.ntmps90
  go_wp2_with (go_at_call 62; refine (within_any b _ _ _ _ H.out).mono ?_; rintro e w' ⟨rfl, rfl⟩)
  go_ret
  exact ⟨rfl, rfl⟩
theorem l03Note_any (b : Bool) (n : Int) (w : World) (h : b = decide (noteOk n)) :
    Calls Try.prog 106 #[.int .i64 n] w fun e w' => e = .returned (.bool b) ∧ w' = w := by
  have H := Lib.hid h; clear h
  go_enter Try.func106, Try.ntmps106
  go_wp2_with (go_at_call 99; refine (l00In_any b _ _ _ _ H.out).mono ?_; rintro e w' ⟨rfl, rfl⟩)
  go_ret
  exact ⟨rfl, rfl⟩

set_option maxHeartbeats 400000 in
theorem validTone_any (b : Bool) (x : Ton) (w : World) (h : b = decide (TonOk x)) :
    Calls Try.prog 101 #[.agg #[.int .i64 x.note, .int .i64 x.start, .int .i64 x.len]] w fun e w' => e = .returned (.bool b) ∧ Below w.heap.size w w' := by
  by_cases e1 : noteOk x.note
  · by_cases e2 : 0 ≤ x.start ∧ x.start ≤ 20000
    · have hr : IntKind.i64.wrap (20000 - x.start) = 20000 - x.start := IntWalk.i64_in _ (by omega)
      have E1 := Lib.hid e1; have E2 := Lib.hid (yesB e2); have E3 := Lib.hid (show b = decide (1 ≤ x.len ∧ x.len ≤ 20000 - x.start) by subst h; simp only [TonOk.iff', e1, e2, true_and])
      obtain ⟨u1, u2⟩ := e2
      clear h e1 hr
      go_enter Try.func101, Try.ntmps101
      go_wp2_with fail
      refine (isNote_any true _ _ (yesB E1.out)).mono ?_
      rintro e w1 ⟨rfl, rfl⟩
      go_wp2_with fail
      refine (within_any true _ _ _ _ E2.out).mono ?_
      rintro e w1 ⟨rfl, rfl⟩
      go_wp2_with fail
      refine (within_any b _ _ _ _ E3.out).mono ?_
      rintro e w1 ⟨rfl, rfl⟩
      go_wp2
      go_ret
      refine ⟨rfl, ?_⟩
      (repeat (first | with_reducible exact Below.refl _ _ | with_reducible exact hbw | (with_reducible refine Below.setCell ?_ ?_ _; rotate_left; · first | exact Nat.le_refl _ | omega | (simp; done) | (simp; omega)) | (with_reducible refine Below.alloc ?_ ?_ _; rotate_left; · first | exact Nat.le_refl _ | omega | (simp; done) | (simp; omega)) | with_reducible refine below_drewN ?_ _ | with_reducible refine Below.drew ?_))
    · have E1 := Lib.hid e1; have E2 := Lib.hid (noB e2); have E3 := Lib.hid (show b = false by subst h; exact decide_eq_false fun h => e2 h.start)
      clear h e1 e2
      go_enter Try.func101, Try.ntmps101
      go_wp2_with fail
      refine (isNote_any true _ _ (yesB E1.out)).mono ?_
      rintro e w1 ⟨rfl, rfl⟩
      go_wp2_with fail
      refine (within_any false _ _ _ _ E2.out).mono ?_
      rintro e w1 ⟨rfl, rfl⟩
      go_wp2
      go_ret
      refine ⟨by rw [E3.out]; rfl, ?_⟩
      (repeat (first | with_reducible exact Below.refl _ _ | with_reducible exact hbw | (with_reducible refine Below.setCell ?_ ?_ _; rotate_left; · first | exact Nat.le_refl _ | omega | (simp; done) | (simp; omega)) | (with_reducible refine Below.alloc ?_ ?_ _; rotate_left; · first | exact Nat.le_refl _ | omega | (simp; done) | (simp; omega)) | with_reducible refine below_drewN ?_ _ | with_reducible refine Below.drew ?_))
  · have E1 := Lib.hid e1; have E3 := Lib.hid (show b = false by subst h; exact decide_eq_false fun h => e1 h.note)
    clear h e1
    go_enter Try.func101, Try.ntmps101
    go_wp2_with fail
    refine (isNote_any false _ _ (noB E1.out)).mono ?_
    rintro e w1 ⟨rfl, rfl⟩
    go_wp2
    go_ret
    refine ⟨by rw [E3.out]; rfl, ?_⟩
    (repeat (first | with_reducible exact Below.refl _ _ | with_reducible exact hbw | (with_reducible refine Below.setCell ?_ ?_ _; rotate_left; · first | exact Nat.le_refl _ | omega | (simp; done) | (simp; omega)) | (with_reducible refine Below.alloc ?_ ?_ _; rotate_left; · first | exact Nat.le_refl _ | omega | (simp; done) | (simp; omega)) | with_reducible refine below_drewN ?_ _ | with_reducible refine Below.drew ?_))

theorem isNaN_any (n : Int) (w : World) : Calls Try.prog 117 #[.int .i64 n] w fun e w' => e = .returned (.bool false) ∧ w' = w := by
  go_enter Try.func117, Try.ntmps117
  go_wp2
  go_ret
  exact ⟨by simp, rfl⟩

/-- What cmp.Compare answers. -/
def cmpI (a b : Int) : Int := if a < b then -1 else if b < a then 1 else 0
theorem compare_any (a b : Int) (w : World) : Calls Try.prog 113 #[.int .i64 a, .int .i64 b] w fun e w' => e = .returned (.int .i64 (cmpI a b)) ∧ w' = w := by
  rcases Int.lt_trichotomy a b with h | h | h
  · have H := Lib.hid (show cmpI a b = -1 from if_pos h)
    go_enter Try.func113, Try.ntmps113
    go_wp2_with (go_at_call 117; refine (isNaN_any _ _).mono ?_; rintro e w' ⟨rfl, rfl⟩)
    go_ret
    exact ⟨by rw [H.out]; rfl, rfl⟩
  · subst h
    have H := Lib.hid (show cmpI a a = 0 by simp [cmpI])
    go_enter Try.func113, Try.ntmps113
    go_wp2_with (go_at_call 117; refine (isNaN_any _ _).mono ?_; rintro e w' ⟨rfl, rfl⟩)
    go_ret
    exact ⟨by rw [H.out]; rfl, rfl⟩
  · have H := Lib.hid (show cmpI a b = 1 by unfold cmpI; rw [if_neg (by omega), if_pos h])
    have h2 : ¬ a < b := by omega
    go_enter Try.func113, Try.ntmps113
    go_wp2_with (go_at_call 117; refine (isNaN_any _ _).mono ?_; rintro e w' ⟨rfl, rfl⟩)
    go_ret
    exact ⟨by rw [H.out]; rfl, rfl⟩

end Go.Proofs.Ytemmnjokojgjaaa
/- Contracts of cmp.Or, compareTones, l25Tone, l25Before. -/
set_option linter.unusedSimpArgs false
set_option linter.unnecessarySimpa false
set_option linter.unusedVariables false
namespace Go.Proofs.Ytemmnjokojgjaaa
open Go.RowKit

/-- The first number that is not 0, or 0. -/
def orI (zs : List Int) : Int := (zs.find? (fun z => z != 0)).getD 0
theorem orI_at {zs : List Int} {k : Nat} (hk : k < zs.length) (h : ∀ i (hi : i < zs.length), i < k → zs[i] = 0) (hz : zs[k] ≠ 0) : orI zs = zs[k] := by
  unfold orI
  have : zs.find? (fun z => z != 0) = some zs[k] := by
    rw [List.find?_eq_some_iff_getElem]
    exact ⟨by simpa using hz, k, hk, rfl, fun j hj => by simpa using h j (by omega) hj⟩
  rw [this]; rfl
theorem orI_none {zs : List Int} (h : ∀ i (hi : i < zs.length), zs[i] = 0) : orI zs = 0 := by
  unfold orI
  have : zs.find? (fun z => z != 0) = none := by
    rw [List.find?_eq_none]; intro x hx; obtain ⟨i, hi, rfl⟩ := List.getElem_of_mem hx; simp [h i hi]
  rw [this]; rfl

theorem zero_step {zs : List Int} {k : Nat} {hk : k < zs.length} (h : ∀ i (hi : i < zs.length), i < k → zs[i] = 0) (hp : zs[k] = 0) : ∀ i (hi : i < zs.length), i < k + 1 → zs[i] = 0 := fun i hi hik => by
  by_cases e : i = k
  · subst e; exact hp
  · exact h i hi (by omega)

set_option maxHeartbeats 400000 in
theorem or_any (v : Value) (zs : List Int) (w : World) (h1 : Ints w v zs) (hz : zs.length ≤ 1000) :
    Calls Try.prog 112 #[v] w fun e w' => e = .returned (.int .i64 (orI zs)) ∧ w' = w := by
  obtain ⟨a, ca, rfl, _, _, _⟩ := id h1
  go_enter Try.func112, Try.ntmps112
  go_wp2
  go_loop [8, 5] (fun i _ => ∃ k : Nat, k ≤ zs.length ∧ i = .int .i64 k ∧ (∀ i (hi : i < zs.length), i < k → zs[i] = 0)) (fun i _ => zs.length - (intOf i).toNat)
  case atStart => exact ⟨0, Nat.zero_le _, rfl, by intro i _ h; omega⟩
  case round =>
    obtain ⟨k, hk, rfl, ht'⟩ := hrel
    have ht := Lib.hid ht'; clear ht'
    by_cases hlt : k < zs.length
    · obtain ⟨b1, o1, rfl, c1⟩ := h1.cells (by simp; omega)
      have d1 : w.cell? ⟨b1, o1 + k, none⟩ = some (.int .i64 zs[k]) := c1 k _ (by simp [hlt])
      clear c1
      by_cases hz : zs[k] = 0
      · have hz2 : (zs[k] != 0) = false := by simpa using hz
        have HZ := Lib.hid hz; clear hz
        go_wp2
        exact ⟨⟨k + 1, by omega, by go_num, zero_step ht.out HZ.out⟩, by simp [intOf]; omega⟩
      · have hz2 : (zs[k] != 0) = true := by simpa using hz
        have HZ := Lib.hid (orI_at hlt ht.out hz); clear hz
        go_wp2
        go_ret
        exact ⟨by rw [HZ.out]; rfl, rfl⟩
    · have H := Lib.hid (orI_none (zs := zs) fun i hi => ht.out i hi (by omega))
      go_wp2
      go_ret
      exact ⟨by rw [H.out]; rfl, rfl⟩

/-- What compareTones answers. -/
def cmpT (x y : Ton) : Int := orI [cmpI x.start y.start, cmpI x.note y.note]
theorem cmpI_bd (a b : Int) : -1 ≤ cmpI a b ∧ cmpI a b ≤ 1 := by 
  unfold cmpI; split
  · omega
  · split <;> omega
theorem cmpT_neg (x y : Ton) : cmpT x y < 0 ↔ before x y := by
  unfold cmpT before orI cmpI
  rcases Int.lt_trichotomy x.start y.start with h | h | h
  · simp [h]
  · rcases Int.lt_trichotomy x.note y.note with g | g | g
    · simp [h, g]
    · simp [h, g]
    · have h1 : ¬ x.note < y.note := by omega
      simp [h, g, h1]
  · have h1 : ¬ x.start < y.start := by omega
    have h2 : ¬ x.start = y.start := by omega
    simp [h, h1, h2]

set_option maxHeartbeats 1000000 in
theorem compareTones_any (x y : Ton) (w : World) :
    Calls Try.prog 102 #[.agg #[.int .i64 x.note, .int .i64 x.start, .int .i64 x.len], .agg #[.int .i64 y.note, .int .i64 y.start, .int .i64 y.len]] w fun e w' => e = .returned (.int .i64 (cmpT x y)) ∧ Below w.heap.size w w' := by
  go_enter Try.func102, Try.ntmps102
  go_wp2_with fail
  refine wp_region_ord [(0, true), (1, true), (2, true), (3, true), (5, true), (6, true), (7, true), (8, true), (4, false), (9, false), (10, false), (11, false), (12, true)] (none) (by kernel_rfl) (by kernel_rfl) ?_
  (repeat (with_reducible refine wpOrd_soft (fun K hK => ?_); simp only [List.getElem?_toArray, List.getElem?_cons_zero, List.getElem?_cons_succ]; first | (go_simp; refine hK _ ?_) | (simp only [undef]; go_simp; refine hK _ ?_); clear hK K))
  (with_reducible refine wpOrd_hard ?_; simp only [List.getElem?_toArray, List.getElem?_cons_zero, List.getElem?_cons_succ])
  go_wp2_with fail
  refine (compare_any x.start y.start _).mono ?_
  rintro e w1 ⟨rfl, rfl⟩
  go_wp2_with fail
  refine ⟨⟨rfl, rfl, rfl, Nat.le_refl _, fun _ _ _ => rfl⟩, ?_⟩
  (with_reducible refine wpOrd_hard ?_; simp only [List.getElem?_toArray, List.getElem?_cons_zero, List.getElem?_cons_succ])
  go_wp2_with fail
  refine (compare_any x.note y.note _).mono ?_
  rintro e w1 ⟨rfl, rfl⟩
  go_wp2_with fail
  refine ⟨⟨rfl, rfl, rfl, Nat.le_refl _, fun _ _ _ => rfl⟩, ?_⟩
  (with_reducible refine wpOrd_hard ?_; simp only [List.getElem?_toArray, List.getElem?_cons_zero, List.getElem?_cons_succ])
  go_wp2_with fail
  refine And.intro (grown_of_below (by (repeat (first | with_reducible exact Below.refl _ _ | with_reducible exact hbw | (with_reducible refine Below.setCell ?_ ?_ _; rotate_left; · first | exact Nat.le_refl _ | omega | (simp; done) | (simp; omega)) | (with_reducible refine Below.alloc ?_ ?_ _; rotate_left; · first | exact Nat.le_refl _ | omega | (simp; done) | (simp; omega)) | with_reducible refine below_drewN ?_ _ | with_reducible refine Below.drew ?_)))) ?_
  (with_reducible refine wpOrd_hard ?_; simp only [List.getElem?_toArray, List.getElem?_cons_zero, List.getElem?_cons_succ])
  go_wp2_with fail
  refine (or_any _ [cmpI x.start y.start, cmpI x.note y.note] _ ?_ (by simp)).mono ?_
  · refine ⟨some ⟨w.heap.size + 1 + 1, 0, none⟩, 2, rfl, by simp, by simp [maxLen], fun j u hu => ⟨_, _, rfl, ?_⟩⟩
    match j, hu with
    | 0, hu => simp at hu; subst hu; simp [go_sem]
    | 1, hu => simp at hu; subst hu; simp [go_sem]
    | j + 2, hu => simp at hu
  rintro e w1 ⟨rfl, rfl⟩
  go_wp2_with fail
  refine ⟨grown_of_below (by (repeat (first | with_reducible exact Below.refl _ _ | with_reducible exact hbw | (with_reducible refine Below.setCell ?_ ?_ _; rotate_left; · first | exact Nat.le_refl _ | omega | (simp; done) | (simp; omega)) | (with_reducible refine Below.alloc ?_ ?_ _; rotate_left; · first | exact Nat.le_refl _ | omega | (simp; done) | (simp; omega)) | with_reducible refine below_drewN ?_ _ | with_reducible refine Below.drew ?_))), ?_⟩
  (repeat (with_reducible refine wpOrd_soft (fun K hK => ?_); simp only [List.getElem?_toArray, List.getElem?_cons_zero, List.getElem?_cons_succ]; first | (go_simp; refine hK _ ?_) | (simp only [undef]; go_simp; refine hK _ ?_); clear hK K))
  (with_reducible refine wpOrd_nil ?_); refine NoPanic.normal ?_
  go_wp2
  go_ret
  refine ⟨rfl, ?_⟩
  (repeat (first | with_reducible exact Below.refl _ _ | with_reducible exact hbw | (with_reducible refine Below.setCell ?_ ?_ _; rotate_left; · first | exact Nat.le_refl _ | omega | (simp; done) | (simp; omega)) | (with_reducible refine Below.alloc ?_ ?_ _; rotate_left; · first | exact Nat.le_refl _ | omega | (simp; done) | (simp; omega)) | with_reducible refine below_drewN ?_ _ | with_reducible refine Below.drew ?_))

end Go.Proofs.Ytemmnjokojgjaaa
