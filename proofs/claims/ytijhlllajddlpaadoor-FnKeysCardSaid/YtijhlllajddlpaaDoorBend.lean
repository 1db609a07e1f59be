/- The reference bends an action. Contract of l24Bend. -/
import Derived.Test.YtijhlllajddlpaaDoorDraw24
import Derived.Test.YtijhlllajddlpaaDoorReg4
set_option linter.unusedSimpArgs false
set_option linter.unnecessarySimpa false
set_option linter.unusedVariables false
set_option maxRecDepth 100000
namespace Go.Proofs.YtijhlllajddlpaaDoor
open Go.RowKit

/-- Of the old blocks only p and u may have changed. -/
structure Only (p : Nat) (u : Option Nat) (w w' : World) : Prop where
  os : w'.os = w.os
  tape : w'.tape = w.tape
  output : w'.output = w.output
  size : w.heap.size ≤ w'.heap.size
  block : ∀ k, k < w.heap.size → k ≠ p → some k ≠ u → w'.heap[k]? = w.heap[k]?
section
variable {p : Nat} {u : Option Nat} {w w1 w2 : World}
theorem Only.refl (p : Nat) (u : Option Nat) (w : World) : Only p u w w := ⟨rfl, rfl, rfl, Nat.le_refl _, fun _ _ _ _ => rfl⟩
theorem Only.touch (h : Only p u w w1) (t : Touch p (p + 1) w1 w2) : Only p u w w2 :=
  ⟨t.os.trans h.os, t.tape.trans h.tape, t.output.trans h.output, Nat.le_trans h.size t.size, fun k hk hp hu => (t.block k (Nat.lt_of_lt_of_le hk h.size) (by omega)).trans (h.block k hk hp hu)⟩
theorem Only.grow {r : Option Nat} (h : Only p u w w1) (g : w1.grownBy w2 r) (hr : r = u ∨ ∀ q, r = some q → w.heap.size ≤ q) : Only p u w w2 :=
  ⟨g.os.trans h.os, g.tape.trans h.tape, g.output.trans h.output, Nat.le_trans h.size g.size, fun k hk hp hu => (g.block k (Nat.lt_of_lt_of_le hk h.size) (fun e => by
    rcases hr with hr | hr
    · exact hu (e.trans hr)
    · have := hr k e.symm; omega)).trans (h.block k hk hp hu)⟩
theorem Only.setNew {a : Addr} (h : Only p u w w1) (ha : w.heap.size ≤ a.block) (v : Value) : Only p u w (w1.setCell a v) :=
  ⟨h.os, h.tape, h.output, by have := h.size; simpa [World.setCell] using this, fun k hk hp hu => (Below.heap_setCell _ _ _ _ (by omega)).trans (h.block k hk hp hu)⟩
theorem Only.step {b : Nat} (h : Only p u w w1) (k : Below b w1 w2) (hb : w.heap.size ≤ b) : Only p u w w2 :=
  ⟨k.os.trans h.os, k.tape.trans h.tape, k.output.trans h.output, Nat.le_trans h.size k.size, fun i hi hp hu => (k.block i (by omega)).trans (h.block i hi hp hu)⟩
end

def lv2 (u : Value) (x : ActD) : Value := .agg #[.int .i64 x.note, u, .int .i64 x.slack, .int .i64 x.weight]
/-- What bending leaves. -/
def Bends (w0 w : World) (p n B : Nat) (cv u : Value) (e : Ending) (w' : World) : Prop :=
  ∃ (x' : ActD) (a' : Option Addr) (c' m : Nat), e = .returned (lv2 (.slice a' x'.levs.length c') x') ∧ smA x' ∧ n ≤ m ∧ m ≤ n + 10 ∧ Src w0 w' p cv m ∧ Only p u.ownBlock w w' ∧
    w'.ownsRow B 54 2 (.slice a' x'.levs.length c') x'.levs.length (x'.levs.flatMap Lev.cells) ∧ ((Value.slice a' x'.levs.length c').ownBlock = u.ownBlock ∨ ∀ q, (Value.slice a' x'.levs.length c').ownBlock = some q → w.heap.size ≤ q)
/-- The bent action at hand, before it is handed back. -/
structure BSt (w0 w W : World) (p n m B : Nat) (cv u : Value) (x' : ActD) (a' : Option Addr) (c' : Nat) : Prop where
  sm : smA x'
  m0 : n ≤ m
  m1 : m ≤ n + 10
  src : Src w0 W p cv m
  only : Only p u.ownBlock w W
  row : W.ownsRow B 54 2 (.slice a' x'.levs.length c') x'.levs.length (x'.levs.flatMap Lev.cells)
  at' : (Value.slice a' x'.levs.length c').ownBlock = u.ownBlock ∨ ∀ q, (Value.slice a' x'.levs.length c').ownBlock = some q → w.heap.size + 2 ≤ q
  ub : ∀ q, u.ownBlock = some q → B ≤ q ∧ q < w.heap.size
  Bw : B ≤ w.heap.size
  pw : p < w.heap.size
  pB : p < B
  w0w : w0.heap.size ≤ w.heap.size
  bx : Box W w.heap.size [.int .i64 x'.note, .slice a' x'.levs.length c', .int .i64 x'.slack, .int .i64 x'.weight]
  br : Box W (w.heap.size + 1) [.int .i64 0, .slice none 0 0, .int .i64 0, .int .i64 0]

section
variable {w0 w W W' : World} {p n m m' B : Nat} {cv u : Value} {x' x'' : ActD} {a' a'' : Option Addr} {c' c'' : Nat}
theorem BSt.away (h : BSt w0 w W p n m B cv u x' a' c') {b : Nat} (h1 : w.heap.size ≤ b) (h2 : b < w.heap.size + 2) : ∀ q, (Value.slice a' x'.levs.length c').ownBlock = some q → q ≠ b := fun q hq => by
  rcases h.at' with e | e
  · have := h.ub q (e.symm.trans hq); omega
  · have := e q hq; omega
theorem BSt.draw (h : BSt w0 w W p n m B cv u x' a' c') (hs : Src w0 W' p cv m') (ht : Touch p (p + 1) W W') (hm : n ≤ m') (hm' : m' ≤ n + 10) : BSt w0 w W' p n m' B cv u x' a' c' :=
  have := h.pB
  have := h.pw
  ⟨h.sm, hm, hm', hs, h.only.touch ht, owns_touch h.row ht (by omega), h.at', h.ub, h.Bw, h.pw, h.pB, h.w0w, h.bx.touch ht (.inr (by omega)), h.br.touch ht (.inr (by omega))⟩
/-- A store into the action's field j. -/
theorem BSt.set {j : Nat} {v : Value} (h : BSt w0 w W p n m B cv u x' a' c') (hj : j < 4) (sm : smA x'') (hat : (Value.slice a'' x''.levs.length c'').ownBlock = u.ownBlock ∨ ∀ q, (Value.slice a'' x''.levs.length c'').ownBlock = some q → w.heap.size + 2 ≤ q)
    (row : W.ownsRow B 54 2 (.slice a'' x''.levs.length c'') x''.levs.length (x''.levs.flatMap Lev.cells))
    (hc : [.int .i64 x'.note, .slice a' x'.levs.length c', .int .i64 x'.slack, .int .i64 x'.weight].set j v = [.int .i64 x''.note, .slice a'' x''.levs.length c'', .int .i64 x''.slack, .int .i64 x''.weight]) :
    BSt w0 w (W.setCell ⟨w.heap.size, j, none⟩ v) p n m B cv u x'' a'' c'' := by
  have h1 := h.pB
  have h2 := h.pw
  have t : Touch w.heap.size (w.heap.size + 1) W (W.setCell ⟨w.heap.size, j, none⟩ v) := (Touch.refl _ _ W).setCell (p := ⟨w.heap.size, j, none⟩) (by simp) _
  have hb := h.bx.set (j := j) v (by simpa using hj)
  rw [hc] at hb
  refine ⟨sm, h.m0, h.m1, h.src.touch t (.inl h2) h.w0w, h.only.setNew (Nat.le_refl _) v, owns_ne row (fun q hq => ?_) v, hat, h.ub, h.Bw, h.pw, h.pB, h.w0w, hb, h.br.touch t (.inr (by omega))⟩
  rcases hat with e | e
  · have := h.ub q (e.symm.trans hq); omega
  · have := e q hq; omega
theorem Box.grow {w w' : World} {q : Nat} {cs : List Value} {r : Option Nat} (h : Box w q cs) (g : w.grownBy w' r) (hr : some q ≠ r) : Box w' q cs :=
  have e := g.block q h.lt hr
  ⟨Nat.lt_of_lt_of_le h.lt g.size, fun j u hu => (World.cell?_of_block (w := w) e).trans (h.at' j u hu), fun j => by
    have := h.fr j
    unfold World.frozen? at *
    simp only at *
    rw [e]; exact this⟩
theorem BSt.over (h : BSt w0 w W p n m B cv u x' a' c') {r : Option Nat} (hg : W.grownBy W' r) (hr : r = u.ownBlock ∨ ∀ q, r = some q → w.heap.size + 2 ≤ q) :
    Src w0 W' p cv m ∧ Only p u.ownBlock w W' ∧ Box W' w.heap.size [.int .i64 x'.note, .slice a' x'.levs.length c', .int .i64 x'.slack, .int .i64 x'.weight] ∧ Box W' (w.heap.size + 1) [.int .i64 0, .slice none 0 0, .int .i64 0, .int .i64 0] := by
  have hz := h.br.lt
  have hBw := h.Bw
  have hB : ∀ q, r = some q → B ≤ q ∧ q ≠ w.heap.size ∧ q ≠ w.heap.size + 1 := fun q hq => by
    rcases hr with e | e
    · have := h.ub q (e.symm.trans hq); omega
    · have := e q hq; omega
  refine ⟨h.src.step (B := B) h.pB ((Below.refl B W).grown hg (by omega) (fun k hk => (hB k hk).1)), h.only.grow hg ?_, h.bx.grow hg (fun e => (hB _ e.symm).2.1 rfl), h.br.grow hg (fun e => (hB _ e.symm).2.2 rfl)⟩
  rcases hr with e | e
  · exact .inl e
  · exact .inr fun q hq => by have := e q hq; omega
theorem BSt.rerow (h : BSt w0 w W p n m B cv u x' a' c') {r : Option Nat} (hg : W.grownBy W' r) (hr : r = u.ownBlock ∨ ∀ q, r = some q → w.heap.size + 2 ≤ q) (sm : smA x'') (hat : (Value.slice a' x''.levs.length c').ownBlock = u.ownBlock ∨ ∀ q, (Value.slice a' x''.levs.length c').ownBlock = some q → w.heap.size + 2 ≤ q)
    (row : W'.ownsRow B 54 2 (.slice a' x''.levs.length c') x''.levs.length (x''.levs.flatMap Lev.cells)) (h1 : x'.note = x''.note) (h2 : x'.levs.length = x''.levs.length) (h3 : x'.slack = x''.slack) (h4 : x'.weight = x''.weight) : BSt w0 w W' p n m B cv u x'' a' c' := by
  obtain ⟨s, o, b1, b2⟩ := h.over hg hr
  rw [h1, h2, h3, h4] at b1
  exact ⟨sm, h.m0, h.m1, s, o, row, hat, h.ub, h.Bw, h.pw, h.pB, h.w0w, b1, b2⟩
theorem BSt.restore (h : BSt w0 w W p n m B cv u x' a' c') {r : Option Nat} (hg : W.grownBy W' r) (hr : r = u.ownBlock ∨ ∀ q, r = some q → w.heap.size + 2 ≤ q) (sm : smA x'') (hat : (Value.slice a'' x''.levs.length c'').ownBlock = u.ownBlock ∨ ∀ q, (Value.slice a'' x''.levs.length c'').ownBlock = some q → w.heap.size + 2 ≤ q)
    (row : W'.ownsRow B 54 2 (.slice a'' x''.levs.length c'') x''.levs.length (x''.levs.flatMap Lev.cells)) (h1 : x'.note = x''.note) (h3 : x'.slack = x''.slack) (h4 : x'.weight = x''.weight) : BSt w0 w (W'.setCell ⟨w.heap.size, 1, none⟩ (.slice a'' x''.levs.length c'')) p n m B cv u x'' a'' c'' := by
  obtain ⟨s, o, b1, b2⟩ := h.over hg hr
  have h2' := h.pw
  have t : Touch w.heap.size (w.heap.size + 1) W' (W'.setCell ⟨w.heap.size, 1, none⟩ (.slice a'' x''.levs.length c'')) := (Touch.refl _ _ W').setCell (p := ⟨w.heap.size, 1, none⟩) (by simp) _
  have hb := b1.set (j := 1) (.slice a'' x''.levs.length c'') (by simp)
  rw [h1, h3, h4] at hb
  refine ⟨sm, h.m0, h.m1, s.touch t (.inl h2') h.w0w, o.setNew (Nat.le_refl _) _, owns_ne row (fun q hq => ?_) _, hat, h.ub, h.Bw, h.pw, h.pB, h.w0w, hb, b2.touch t (.inr (by omega))⟩
  rcases hat with e | e
  · have := h.ub q (e.symm.trans hq); omega
  · have := e q hq; omega
theorem BSt.fin (h : BSt w0 w W p n m B cv u x' a' c') (v0 v1 v2 v3 : Value) :
    Bends w0 w p n B cv u (.returned (lv2 (.slice a' x'.levs.length c') x')) ((((W.setCell ⟨w.heap.size + 1, 0, none⟩ v0).setCell ⟨w.heap.size + 1, 1, none⟩ v1).setCell ⟨w.heap.size + 1, 2, none⟩ v2).setCell ⟨w.heap.size + 1, 3, none⟩ v3) := by
  have h2 := h.pw
  have aw := h.away (b := w.heap.size + 1) (by omega) (by omega)
  have t : Touch (w.heap.size + 1) (w.heap.size + 2) W ((((W.setCell ⟨w.heap.size + 1, 0, none⟩ v0).setCell ⟨w.heap.size + 1, 1, none⟩ v1).setCell ⟨w.heap.size + 1, 2, none⟩ v2).setCell ⟨w.heap.size + 1, 3, none⟩ v3) :=
    ((((Touch.refl _ _ W).setCell (p := ⟨_, 0, none⟩) (by simp) _).setCell (p := ⟨_, 1, none⟩) (by simp) _).setCell (p := ⟨_, 2, none⟩) (by simp) _).setCell (p := ⟨_, 3, none⟩) (by simp) _
  refine ⟨x', a', c', m, rfl, h.sm, h.m0, h.m1, h.src.touch t (.inl (by omega)) (by have := h.w0w; omega), (((h.only.setNew (by simp only; omega) _).setNew (by simp only; omega) _).setNew (by simp only; omega) _).setNew (by simp only; omega) _, owns_ne (owns_ne (owns_ne (owns_ne h.row aw v0) aw v1) aw v2) aw v3, ?_⟩
  rcases h.at' with e | e
  · exact .inl e
  · exact .inr fun q hq => by have := e q hq; omega
end

theorem bends_of {w0 w W : World} {p n B : Nat} {cv u : Value} {e e' : Ending} (h : Bends w0 w p n B cv u e W) (he : e = e') : Bends w0 w p n B cv u e' W := he ▸ h
theorem rep_cells : ∀ k, (List.replicate k (⟨0, 0⟩ : Lev)).flatMap Lev.cells = List.replicate (k * 2) (.int .i64 0)
  | 0 => rfl
  | k + 1 => by rw [List.replicate_succ, List.flatMap_cons, rep_cells k, show (k + 1) * 2 = k * 2 + 1 + 1 by omega, List.replicate_succ, List.replicate_succ]; rfl
/-- k levers of which i have been filled. -/
def fillL (k i : Nat) : List Lev := List.replicate i ⟨99991, 100000⟩ ++ List.replicate (k - i) ⟨0, 0⟩
theorem fillL_len (k i : Nat) (h : i ≤ k) : (fillL k i).length = k := by simp [fillL]; omega
theorem fillL_zero (k : Nat) : fillL k 0 = List.replicate k ⟨0, 0⟩ := by simp [fillL]
theorem fillL_open {k i : Nat} (h : i < k) : (fillL k i).flatMap Lev.cells = (List.replicate i (⟨99991, 100000⟩ : Lev)).flatMap Lev.cells ++ .int .i64 0 :: .int .i64 0 :: (List.replicate (k - (i + 1)) (⟨0, 0⟩ : Lev)).flatMap Lev.cells := by
  unfold fillL
  rw [List.flatMap_append, show k - i = k - (i + 1) + 1 by omega, List.replicate_succ, List.flatMap_cons]; rfl
theorem fillL_step {k i : Nat} : (fillL k (i + 1)).flatMap Lev.cells = (List.replicate i (⟨99991, 100000⟩ : Lev)).flatMap Lev.cells ++ .int .i64 99991 :: .int .i64 100000 :: (List.replicate (k - (i + 1)) (⟨0, 0⟩ : Lev)).flatMap Lev.cells := by
  unfold fillL
  rw [List.replicate_succ', List.append_assoc, List.flatMap_append]; simp [Lev.cells]
theorem fillA_len (i : Nat) : ((List.replicate i (⟨99991, 100000⟩ : Lev)).flatMap Lev.cells).length = i * 2 := by rw [flat_len (f := Lev.cells) (m := 2) (fun _ => rfl)]; simp
theorem fill_sm {x : ActD} (s : smA x) {k : Nat} (hk : k ≤ 7) (i : Nat) (hi : i ≤ k := by omega) : smA ⟨x.note, fillL k i, x.slack, x.weight⟩ :=
  ⟨s.note, s.slack, s.weight, fun l hl => by
    simp only [fillL, List.mem_append, List.mem_replicate] at hl
    rcases hl with ⟨_, rfl⟩ | ⟨_, rfl⟩ <;> simp [smN], by simp only; rw [fillL_len k i hi]; omega⟩

set_option maxHeartbeats 4000000 in
theorem l24Bend_any (w0 : World) (p n B : Nat) (cv : Value) (bs : List Int) (w : World) (x : ActD) (a : Option Addr) (c : Nat) (h0 : Byts w0 cv bs) (ok : okByts bs) (h : Src w0 w p cv n) (hn : n ≤ 800000000)
    (ho : w.ownsRow B 54 2 (.slice a x.levs.length c) x.levs.length (x.levs.flatMap Lev.cells)) (hpB : p < B) (hBw : B ≤ w.heap.size) (sm : smA x) (hl : x.levs.length ≤ 5) :
    Calls Tryd.prog 35 #[.pointer (some ⟨p, 0, none⟩), .agg #[.int .i64 x.note, .slice a x.levs.length c, .int .i64 x.slack, .int .i64 x.weight]] w (Bends w0 w p n B cv (.slice a x.levs.length c)) := by
  have HS := Lib.hid h
  have hlt := h.lt
  have hlow := h.low
  have hw0 : w0.heap.size ≤ w.heap.size := by omega
  have HO := Lib.hid ho
  have SM := Lib.hid sm
  clear h ho sm
  go_enter Tryd.func35, Tryd.ntmps35
  go_wp2_with fail
  obtain ⟨W, hW⟩ : ∃ W, W = (w.alloc (.cells #[.int .i64 x.note, .slice a x.levs.length c, .int .i64 x.slack, .int .i64 x.weight] 29)).alloc (.cells #[.int .i64 0, .slice none 0 0, .int .i64 0, .int .i64 0] 29) := ⟨_, rfl⟩
  rw [← hW]
  have HB0 := Lib.hid (show BSt w0 w W p n n B cv (.slice a x.levs.length c) x a c from by
    have hb : Below w.heap.size w W := by rw [hW]; (repeat (first | with_reducible exact Below.refl _ _ | with_reducible exact hbw | (with_reducible refine Below.setCell ?_ ?_ _; rotate_left; · first | exact Nat.le_refl _ | omega | (simp; done) | (simp; omega)) | (with_reducible refine Below.alloc ?_ ?_ _; rotate_left; · first | exact Nat.le_refl _ | omega | (simp; done) | (simp; omega)) | with_reducible refine below_drewN ?_ _ | with_reducible refine Below.drew ?_))
    refine ⟨SM.out, Nat.le_refl _, by omega, HS.out.mono hb, (Only.refl _ _ _).step hb (Nat.le_refl _), owns_mono HO.out hb, .inl rfl, fun q hq => HO.out.lt q hq, hBw, hlt, hpB, hw0, ?_, ?_⟩
    · rw [hW]; exact (Box.alloc w _ _ w.heap.size rfl).mono (belowA _ _)
    · rw [hW]; exact Box.alloc _ _ _ (w.heap.size + 1) (by simp))
  have hz : W.heap.size = w.heap.size + 2 := by rw [hW]; simp
  clear hW HS
  refine (pick_any w0 p n cv bs 20 W h0 ok HB0.out.src (by omega) (by omega) (by omega)).mono ?_
  rintro e w1 ⟨r, m1, rfl, r0, r1, m10, m11, hs1, ht1⟩
  have hz1 := ht1.size
  have HB1 := Lib.hid (show BSt w0 w w1 p n m1 B cv (.slice a x.levs.length c) x a c from HB0.out.draw hs1 ht1 m10 (by omega))
  clear HB0 hs1 ht1
  have hz2 : w.heap.size + 2 ≤ w1.heap.size := by omega
  clear hz hz1
  by_cases e0 : r = 0
  · subst e0
    go_wp2_with fail
    refine (among_lit w0 p m1 cv bs [-1,0,127,128] 4 w1.heap.size w1 h0 ok HB1.out.src (by omega) rfl rfl (by simp) (by simp)).mono ?_
    rintro e w2 ⟨v, mf, rfl, hv, m20, m21, hs2, ht2⟩
    have HV := Lib.hid (show smN v by simp only [List.mem_cons, List.not_mem_nil, or_false] at hv; unfold smN; omega)
    have hzz := ht2.size
    have hb := HB1.out.draw hs2 ht2 (by omega) (by omega)
    have HF := Lib.hid (hb.set (j := 0) (v := .int .i64 v) (x'' := ⟨v, x.levs, x.slack, x.weight⟩) (a'' := a) (c'' := c) (by omega) (by have s := SM.out; exact ⟨HV.out, s.slack, s.weight, s.levs, s.len⟩) hb.at' hb.row rfl)
    have HC := Lib.hid hb
    clear HB1 hs2 ht2 hv hb
    have y0 := HC.out.bx.at' 0 _ rfl
    have y1 := HC.out.bx.at' 1 _ rfl
    have y2 := HC.out.bx.at' 2 _ rfl
    have y3 := HC.out.bx.at' 3 _ rfl
    have r0 := HC.out.br.at' 0 _ rfl
    have r1 := HC.out.br.at' 1 _ rfl
    have r2 := HC.out.br.at' 2 _ rfl
    have r3 := HC.out.br.at' 3 _ rfl
    have f0 := HC.out.br.fr 0
    have f1 := HC.out.br.fr 1
    have f2 := HC.out.br.fr 2
    have f3 := HC.out.br.fr 3
    have l7 := HC.out.br.lt
    have l8 := HC.out.bx.lt
    have g1 := HC.out.bx.fr 0
    go_wp2
    refine bodyPost_ret (v := .agg #[.int .i64 v, .slice a x.levs.length c, .int .i64 x.slack, .int .i64 x.weight]) (by simp [results, Tryd.results35, go_sem, r0, r1, r2, r3, f0, f1, f2, f3, l7, l8]) rfl (bends_of (HF.out.fin _ _ _ _) (by first | rfl | (simp [lv2]; done) | (simp [lv2, fillL_len _ _ (Nat.le_refl _)]; done)))
  by_cases e1 : r = 1
  · subst e1
    go_wp2_with fail
    refine (among_lit w0 p m1 cv bs [-1,10001] 2 w1.heap.size w1 h0 ok HB1.out.src (by omega) rfl rfl (by simp) (by simp)).mono ?_
    rintro e w2 ⟨v, mf, rfl, hv, m20, m21, hs2, ht2⟩
    have HV := Lib.hid (show smN v by simp only [List.mem_cons, List.not_mem_nil, or_false] at hv; unfold smN; omega)
    have hzz := ht2.size
    have hb := HB1.out.draw hs2 ht2 (by omega) (by omega)
    have HF := Lib.hid (hb.set (j := 2) (v := .int .i64 v) (x'' := ⟨x.note, x.levs, v, x.weight⟩) (a'' := a) (c'' := c) (by omega) (by have s := SM.out; exact ⟨s.note, HV.out, s.weight, s.levs, s.len⟩) hb.at' hb.row rfl)
    have HC := Lib.hid hb
    clear HB1 hs2 ht2 hv hb
    have y0 := HC.out.bx.at' 0 _ rfl
    have y1 := HC.out.bx.at' 1 _ rfl
    have y2 := HC.out.bx.at' 2 _ rfl
    have y3 := HC.out.bx.at' 3 _ rfl
    have r0 := HC.out.br.at' 0 _ rfl
    have r1 := HC.out.br.at' 1 _ rfl
    have r2 := HC.out.br.at' 2 _ rfl
    have r3 := HC.out.br.at' 3 _ rfl
    have f0 := HC.out.br.fr 0
    have f1 := HC.out.br.fr 1
    have f2 := HC.out.br.fr 2
    have f3 := HC.out.br.fr 3
    have l7 := HC.out.br.lt
    have l8 := HC.out.bx.lt
    have g1 := HC.out.bx.fr 2
    go_wp2
    refine bodyPost_ret (v := .agg #[.int .i64 x.note, .slice a x.levs.length c, .int .i64 v, .int .i64 x.weight]) (by simp [results, Tryd.results35, go_sem, r0, r1, r2, r3, f0, f1, f2, f3, l7, l8]) rfl (bends_of (HF.out.fin _ _ _ _) (by first | rfl | (simp [lv2]; done) | (simp [lv2, fillL_len _ _ (Nat.le_refl _)]; done)))
  by_cases e2 : r = 2
  · subst e2
    go_wp2_with fail
    refine (among_lit w0 p m1 cv bs [-1,1000001] 2 w1.heap.size w1 h0 ok HB1.out.src (by omega) rfl rfl (by simp) (by simp)).mono ?_
    rintro e w2 ⟨v, mf, rfl, hv, m20, m21, hs2, ht2⟩
    have HV := Lib.hid (show smN v by simp only [List.mem_cons, List.not_mem_nil, or_false] at hv; unfold smN; omega)
    have hzz := ht2.size
    have hb := HB1.out.draw hs2 ht2 (by omega) (by omega)
    have HF := Lib.hid (hb.set (j := 3) (v := .int .i64 v) (x'' := ⟨x.note, x.levs, x.slack, v⟩) (a'' := a) (c'' := c) (by omega) (by have s := SM.out; exact ⟨s.note, s.slack, HV.out, s.levs, s.len⟩) hb.at' hb.row rfl)
    have HC := Lib.hid hb
    clear HB1 hs2 ht2 hv hb
    have y0 := HC.out.bx.at' 0 _ rfl
    have y1 := HC.out.bx.at' 1 _ rfl
    have y2 := HC.out.bx.at' 2 _ rfl
    have y3 := HC.out.bx.at' 3 _ rfl
    have r0 := HC.out.br.at' 0 _ rfl
    have r1 := HC.out.br.at' 1 _ rfl
    have r2 := HC.out.br.at' 2 _ rfl
    have r3 := HC.out.br.at' 3 _ rfl
    have f0 := HC.out.br.fr 0
    have f1 := HC.out.br.fr 1
    have f2 := HC.out.br.fr 2
    have f3 := HC.out.br.fr 3
    have l7 := HC.out.br.lt
    have l8 := HC.out.bx.lt
    have g1 := HC.out.bx.fr 3
    go_wp2
    refine bodyPost_ret (v := .agg #[.int .i64 x.note, .slice a x.levs.length c, .int .i64 x.slack, .int .i64 v]) (by simp [results, Tryd.results35, go_sem, r0, r1, r2, r3, f0, f1, f2, f3, l7, l8]) rfl (bends_of (HF.out.fin _ _ _ _) (by first | rfl | (simp [lv2]; done) | (simp [lv2, fillL_len _ _ (Nat.le_refl _)]; done)))
  by_cases e3 : r = 3
  · subst e3
    go_wp2_with fail
    refine (among_lit w0 p m1 cv bs [6, 7] 2 w1.heap.size w1 h0 ok HB1.out.src (by omega) rfl rfl (by simp) (by simp)).mono ?_
    rintro e w2 ⟨v, m2, rfl, hv, m20, m21, hs2, ht2⟩
    have hzz := ht2.size
    have v67 : v = 6 ∨ v = 7 := by simpa using hv
    have HB2 := Lib.hid (show BSt w0 w w2 p n m2 B cv (.slice a x.levs.length c) x a c from HB1.out.draw hs2 ht2 (by omega) (by omega))
    clear HB1 hs2 ht2 hv
    obtain ⟨k, rfl⟩ : ∃ k : Nat, v = (k : Int) := ⟨v.toNat, by omega⟩
    have k67 : 6 ≤ k ∧ k ≤ 7 := by omega
    obtain ⟨k6, k7⟩ := k67
    obtain ⟨i0, hi, hz0, hz1, hz2'⟩ := info_parts info_Lever
    have HC := HB2
    have y0 := HC.out.bx.at' 0 _ rfl
    have y1 := HC.out.bx.at' 1 _ rfl
    have y2 := HC.out.bx.at' 2 _ rfl
    have y3 := HC.out.bx.at' 3 _ rfl
    have r0 := HC.out.br.at' 0 _ rfl
    have r1 := HC.out.br.at' 1 _ rfl
    have r2 := HC.out.br.at' 2 _ rfl
    have r3 := HC.out.br.at' 3 _ rfl
    have f0 := HC.out.br.fr 0
    have f1 := HC.out.br.fr 1
    have f2 := HC.out.br.fr 2
    have f3 := HC.out.br.fr 3
    have l7 := HC.out.br.lt
    have l8 := HC.out.bx.lt
    have g1 := HC.out.bx.fr 1
    go_wp2_with (at_make; refine wpList_make_full _ rfl _ _ 27 rfl (w.heap.size + 2) 54 i0 _ 2 Tryd.underlying27 hi hz0 hz1 _ _ _ _ k rfl rfl rfl rfl (by rw [hz2']; omega) (by unfold maxLen; omega) (by omega) ?_)
    intro w3 hown hgrow
    have HL := Lib.hid (show (madeCells #[Value.int .i64 0, Value.int .i64 0] (k * 2)).toList = (List.replicate k (⟨0, 0⟩ : Lev)).flatMap Lev.cells from by rw [made_rep2]; exact (rep_cells k).symm)
    have hat3 : (Value.slice (some ⟨w2.heap.size, 0, none⟩) k k).ownBlock = some w2.heap.size := rfl
    have HF := Lib.hid (HB2.out.restore (x'' := ⟨x.note, fillL k 0, x.slack, x.weight⟩) (a'' := some ⟨w2.heap.size, 0, none⟩) (c'' := k) hgrow (.inr (by simp)) (fill_sm SM.out k7 0) (by
        rw [fillL_len k 0 (by omega)]
        exact .inr fun q hq => by have e : w2.heap.size = q := Option.some.inj hq; omega) (by rw [fillL_len k 0 (by omega), fillL_zero, ← HL.out]; exact owns_base hown (by omega)) rfl rfl rfl)
    simp only [fillL_len k 0 (by omega)] at HF
    obtain ⟨g, hg⟩ : ∃ g, g = w2.heap.size := ⟨_, rfl⟩
    rw [← hg] at HF ⊢
    have hgb : w.heap.size + 2 ≤ g := by omega
    obtain ⟨_, _, b3, _⟩ := HB2.out.over hgrow (.inr (by simp))
    have z1 := b3.at' 1 _ rfl
    have zf := b3.fr 1
    have zl := b3.lt
    clear HC HB2 y0 y1 y2 y3 r0 r1 r2 r3 f0 f1 f2 f3 l7 l8 g1 hat3 HL hown hgrow hg hi hz0 hz1 hz2' b3
    go_wp2_with fail
    go_loopw [6] (fun i wr => ∃ j : Nat, j ≤ k ∧ i = .int .i64 j ∧ BSt w0 w wr p n m2 B cv (.slice a x.levs.length c) ⟨x.note, fillL k j, x.slack, x.weight⟩ (some ⟨g, 0, none⟩) k) (fun i _ => k - (intOf i).toNat)
    case atStart => exact ⟨0, Nat.zero_le _, by go_num, HF.out⟩
    case round =>
      obtain ⟨j, hj, rfl, hs⟩ := hrel
      have hfl := fillL_len k j hj
      have q1 := hs.bx.at' 1 _ rfl
      simp only [hfl] at q1
      have HS := Lib.hid hs
      have HFL := Lib.hid hfl
      clear HF hs hfl z1 zf zl
      by_cases hlt : j < k
      · have row := HS.out.row
        simp only [HFL.out] at row
        rw [fillL_open hlt] at row
        have d0 : wr.cell? ⟨g, j * 2, none⟩ = some (.int .i64 0) := by rw [row.cellAt _ (by omega), List.getElem?_append_right (by rw [fillA_len]; omega), fillA_len]; simp
        have d1 : wr.cell? ⟨g, j * 2 + 1, none⟩ = some (.int .i64 0) := by rw [row.cellAt _ (by omega), List.getElem?_append_right (by rw [fillA_len]; omega), fillA_len]; simp
        have g0 := row.frozenAt (j * 2)
        have g1 := row.frozenAt (j * 2 + 1)
        have gne : ¬ w.heap.size = g := by omega
        have glt : g < wr.heap.size := (row.lt g rfl).2
        have hl8 := HS.out.bx.lt
        have e' := stored2 (A := (List.replicate j (⟨99991, 100000⟩ : Lev)).flatMap Lev.cells) row (fillA_len j) (.int .i64 99991) (.int .i64 100000)
        rw [← fillL_step] at e'
        have HN := Lib.hid (HS.out.rerow (x'' := ⟨x.note, fillL k (j + 1), x.slack, x.weight⟩) e'.2 (.inr fun q hq => by cases hq; exact hgb) (fill_sm SM.out k7 (j + 1)) (.inr fun q hq => by cases hq; exact hgb) (by rw [fillL_len k (j + 1) (by omega)]; exact e'.1) rfl (by simp only; rw [fillL_len k (j + 1) (by omega), HFL.out]) rfl rfl)
        clear row e'
        go_wp2
        go_roundw
        case rel => exact ⟨j + 1, by omega, by go_num, HN.out⟩
        case measure => simp [intOf] <;> omega
      · obtain rfl : j = k := by omega
        have HF := HS
        have y0 := HF.out.bx.at' 0 _ rfl
        have y1 := HF.out.bx.at' 1 _ rfl
        have y2 := HF.out.bx.at' 2 _ rfl
        have y3 := HF.out.bx.at' 3 _ rfl
        have r0 := HF.out.br.at' 0 _ rfl
        have r1 := HF.out.br.at' 1 _ rfl
        have r2 := HF.out.br.at' 2 _ rfl
        have r3 := HF.out.br.at' 3 _ rfl
        have f0 := HF.out.br.fr 0
        have f1 := HF.out.br.fr 1
        have f2 := HF.out.br.fr 2
        have f3 := HF.out.br.fr 3
        have l7 := HF.out.br.lt
        have l8 := HF.out.bx.lt
        simp only [HFL.out] at y1
        go_wp2
        refine bodyPost_ret (v := .agg #[.int .i64 x.note, .slice (some ⟨g, 0, none⟩) j j, .int .i64 x.slack, .int .i64 x.weight]) (by simp [results, Tryd.results35, go_sem, r0, r1, r2, r3, f0, f1, f2, f3, l7, l8]) rfl (bends_of (HF.out.fin _ _ _ _) (by first | rfl | (simp [lv2]; done) | (simp [lv2, fillL_len _ _ (Nat.le_refl _)]; done)))
  by_cases e4 : r = 4
  · subst e4
    go_wp2_with fail
    have c1 := HB1.out.bx.at' 1 _ rfl
    have l1 := HB1.out.bx.lt
    have n0 : ∀ y, (extT w1.drew p (p + 1) y).cell? ⟨w.heap.size, 1, none⟩ = some (.slice a x.levs.length c) := fun y => (cell?_extT (w := w1.drew) (by simpa using l1) (.inr (by omega))).trans c1
    refine wp_region_ord4 [(0, 1), (1, 3), (2, 1), (3, 4), (4, 4), (5, 1), (6, 4), (7, 0), (8, 1), (9, 0)] [3, 4, 6, 7, 9] [7, 9] (0) (w.heap.size + 2) (p) (p + 1) (by omega) (by kernel_rfl) (by kernel_rfl) ?_
    (repeat ((first | with_reducible refine wpOrd4_soft (fun K hK => ?_) | with_reducible refine wpOrd4_pre (fun K hK => ?_) | with_reducible refine wpOrd4_late (fun K hK => ?_)); simp only [List.getElem?_toArray, List.getElem?_cons_zero, List.getElem?_cons_succ]; first | (go_simp; refine hK _ ?_) | (simp only [undef]; go_simp; refine hK _ ?_); clear hK K))
    ((first | with_reducible refine wpOrd4_hard ?_ | with_reducible refine wpOrd4_new ?_); simp only [List.getElem?_toArray, List.getElem?_cons_zero, List.getElem?_cons_succ])
    go_wp2_with fail
    refine And.intro (touch_row (World.grownBy_alloc _ _ _)) ?_
    (repeat ((first | with_reducible refine wpOrd4_soft (fun K hK => ?_) | with_reducible refine wpOrd4_pre (fun K hK => ?_) | with_reducible refine wpOrd4_late (fun K hK => ?_)); simp only [List.getElem?_toArray, List.getElem?_cons_zero, List.getElem?_cons_succ]; first | (go_simp; refine hK _ ?_) | (simp only [undef]; go_simp; refine hK _ ?_); clear hK K))
    ((first | with_reducible refine wpOrd4_hard ?_ | with_reducible refine wpOrd4_new ?_); simp only [List.getElem?_toArray, List.getElem?_cons_zero, List.getElem?_cons_succ])
    go_wp2_with fail
    refine (among_lit w0 p m1 cv bs [0, 1, 100001] 3 w1.heap.size w1.drew h0 ok (HB1.out.src.mono (Q.below ((Q.refl w1).drew) _)) (by omega) rfl rfl (by simp) (by simp)).mono ?_
    rintro e w2 ⟨v, m2, rfl, hv, m20, m21, hs2, ht2⟩
    go_wp2_with fail
    refine And.intro ht2 ?_
    (repeat ((first | with_reducible refine wpOrd4_soft (fun K hK => ?_) | with_reducible refine wpOrd4_pre (fun K hK => ?_) | with_reducible refine wpOrd4_late (fun K hK => ?_)); simp only [List.getElem?_toArray, List.getElem?_cons_zero, List.getElem?_cons_succ]; first | (go_simp; refine hK _ ?_) | (simp only [undef]; go_simp; refine hK _ ?_); clear hK K))
    ((first | with_reducible refine wpOrd4_hard ?_ | with_reducible refine wpOrd4_new ?_); simp only [List.getElem?_toArray, List.getElem?_cons_zero, List.getElem?_cons_succ])
    go_wp2_with fail
    refine And.intro (ht2.alloc _) ?_
    have ht2' : Touch p (p + 1) w1 w2 := ⟨ht2.os, ht2.tape, ht2.output, ht2.size, ht2.block⟩
    have HV := Lib.hid (show smN v by simp only [List.mem_cons, List.not_mem_nil, or_false] at hv; unfold smN; omega)
    have HB2 := Lib.hid (HB1.out.draw hs2 ht2' (by omega) (by omega))
    have HT2 := Lib.hid ht2
    have hz3 : w.heap.size + 2 ≤ w2.heap.size := by have := ht2'.size; omega
    clear HB1 hs2 hv ht2 ht2' c1 n0 l1
    (repeat ((first | with_reducible refine wpOrd4_soft (fun K hK => ?_) | with_reducible refine wpOrd4_pre (fun K hK => ?_) | with_reducible refine wpOrd4_late (fun K hK => ?_)); simp only [List.getElem?_toArray, List.getElem?_cons_zero, List.getElem?_cons_succ]; first | (go_simp; refine hK _ ?_) | (simp only [undef]; go_simp; refine hK _ ?_); clear hK K))
    ((first | with_reducible refine wpOrd4_hard ?_ | with_reducible refine wpOrd4_new ?_); simp only [List.getElem?_toArray, List.getElem?_cons_zero, List.getElem?_cons_succ])
    refine append_one_at rfl _ _ 27 rfl B 54 _ 2 16 Tryd.underlying27 info_Lever rfl (by decide) _ x.levs.length _ rfl HB2.out.row [.int .i64 v, .int .i64 3] rfl (by simp [Value.oneCell']) w2.heap.size rfl rfl (by omega) (by decide) (by omega) ?_
    intro a7 c7 w7 ho7 hg7 hb7 hat7
    have HO7 := Lib.hid ho7; have HG7 := Lib.hid hg7; have HA7 := Lib.hid hat7
    obtain ⟨s7, o7, b7, r7⟩ := HB2.out.over hg7 (.inl rfl)
    have g1 := b7.fr 1
    have y0 := b7.at' 0 _ rfl
    have y1 := b7.at' 1 _ rfl
    have y2 := b7.at' 2 _ rfl
    have y3 := b7.at' 3 _ rfl
    have r0 := r7.at' 0 _ rfl
    have r1 := r7.at' 1 _ rfl
    have r2 := r7.at' 2 _ rfl
    have r3 := r7.at' 3 _ rfl
    have f0 := r7.fr 0
    have f1 := r7.fr 1
    have f2 := r7.fr 2
    have f3 := r7.fr 3
    have l7 := r7.lt
    have l8 := b7.lt
    have HT7 := Lib.hid (show Touch 0 (w.heap.size + 2) w1.drew w7 from (touch_in HT2.out ⟨Nat.zero_le _, by omega⟩).trans (Touch.of_grown hg7 fun q hq => ⟨Nat.zero_le _, by have := HB2.out.ub q hq; omega⟩))
    have HF := Lib.hid (HB2.out.restore (x'' := ⟨x.note, x.levs ++ [⟨v, 3⟩], x.slack, x.weight⟩) (a'' := a7) (c'' := c7) hg7 (.inl rfl) (by
        have s := SM.out
        refine ⟨s.note, s.slack, s.weight, fun l hl => ?_, by simp; omega⟩
        rcases List.mem_append.1 hl with hl | hl
        · exact s.levs l hl
        · rw [List.mem_singleton.1 hl]; exact ⟨HV.out, by simp [smN]⟩) (by
        simp only [List.length_append, List.length_cons, List.length_nil, Nat.zero_add]
        rcases hat7 with e | e
        · exact .inl e
        · exact .inr fun q hq => by rw [e] at hq; cases hq; omega) (by simpa [Lev.cells] using ho7) rfl rfl rfl)
    simp only [List.length_append, List.length_cons, List.length_nil, Nat.zero_add] at HF
    clear ho7 hg7 hb7 hat7 s7 o7 b7 r7 HB2
    refine And.intro HT7.out ?_
    (repeat ((first | with_reducible refine wpOrd4_soft (fun K hK => ?_) | with_reducible refine wpOrd4_pre (fun K hK => ?_) | with_reducible refine wpOrd4_late (fun K hK => ?_)); simp only [List.getElem?_toArray, List.getElem?_cons_zero, List.getElem?_cons_succ]; first | (go_simp; refine hK _ ?_) | (simp only [undef]; go_simp; refine hK _ ?_); clear hK K))
    ((first | with_reducible refine wpOrd4_hard ?_ | with_reducible refine wpOrd4_new ?_); simp only [List.getElem?_toArray, List.getElem?_cons_zero, List.getElem?_cons_succ])
    go_wp2_with fail
    refine And.intro (HT7.out.setCell (p := ⟨w.heap.size, 1, none⟩) (by simp) _) ?_
    (with_reducible refine wpOrd4_nil ?_); refine NoPanic.normal ?_
    go_wp2
    refine bodyPost_ret (v := .agg #[.int .i64 x.note, .slice a7 (x.levs.length + 1) c7, .int .i64 x.slack, .int .i64 x.weight]) (by simp [results, Tryd.results35, go_sem, r0, r1, r2, r3, f0, f1, f2, f3, l7, l8]) rfl (bends_of (HF.out.fin _ _ _ _) (by first | rfl | (simp [lv2]; done) | (simp [lv2, fillL_len _ _ (Nat.le_refl _)]; done)))
  have d0 : (r == 0) = false := by simpa using e0
  have d1 : (r == 1) = false := by simpa using e1
  have d2 : (r == 2) = false := by simpa using e2
  have d3 : (r == 3) = false := by simpa using e3
  have d4 : (r == 4) = false := by simpa using e4
  generalize hq : m1 = mf
  have HF := HB1
  rw [hq] at HF
  clear HB1
  obtain ⟨W, rfl⟩ : ∃ W, W = w1 := ⟨_, rfl⟩
  have HC := HF
  have y0 := HC.out.bx.at' 0 _ rfl
  have y1 := HC.out.bx.at' 1 _ rfl
  have y2 := HC.out.bx.at' 2 _ rfl
  have y3 := HC.out.bx.at' 3 _ rfl
  have r0 := HC.out.br.at' 0 _ rfl
  have r1 := HC.out.br.at' 1 _ rfl
  have r2 := HC.out.br.at' 2 _ rfl
  have r3 := HC.out.br.at' 3 _ rfl
  have f0 := HC.out.br.fr 0
  have f1 := HC.out.br.fr 1
  have f2 := HC.out.br.fr 2
  have f3 := HC.out.br.fr 3
  have l7 := HC.out.br.lt
  have l8 := HC.out.bx.lt
  go_wp2
  refine bodyPost_ret (v := .agg #[.int .i64 x.note, .slice a x.levs.length c, .int .i64 x.slack, .int .i64 x.weight]) (by simp [results, Tryd.results35, go_sem, r0, r1, r2, r3, f0, f1, f2, f3, l7, l8]) rfl (bends_of (HF.out.fin _ _ _ _) (by first | rfl | (simp [lv2]; done) | (simp [lv2, fillL_len _ _ (Nat.le_refl _)]; done)))

end Go.Proofs.YtijhlllajddlpaaDoor
