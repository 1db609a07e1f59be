/- Contracts of the laws' helpers over Lever and slices of it: copy, equality, size, marks. -/
import Derived.Test.YtijhlllajddlpaaDoorChecked
import Derived.Test.YtijhlllajddlpaaDoorRegion
import Derived.Deep.QuietTactic
import Derived.BigQuiet
set_option linter.unusedSimpArgs false
set_option linter.unnecessarySimpa false
set_option linter.unusedVariables false
namespace Go.Proofs.YtijhlllajddlpaaDoor
open Go.RowKit

structure Lev where
  inn : Int
  out : Int
  deriving DecidableEq

def Lev.val (x : Lev) : Value := .agg #[.int .i64 x.inn, .int .i64 x.out]
def Lev.cells (x : Lev) : List Value := [.int .i64 x.inn, .int .i64 x.out]
def Levs (w : World) (v : Value) (xs : List Lev) : Prop := Sl w v xs.length (xs.flatMap Lev.cells)
theorem Lev.ext_iff' (x y : Lev) : x = y ↔ x.inn = y.inn ∧ x.out = y.out := by cases x; cases y; simp [Lev.mk.injEq]
theorem Levs.mono {w w' : World} {v : Value} {xs : List Lev} (h : Levs w v xs) (hb : Below w.heap.size w w') : Levs w' v xs := Sl.mono h hb
theorem Levs.q {w w' : World} {v : Value} {xs : List Lev} (h : Levs w v xs) (hq : Q w w') : Levs w' v xs := h.mono (hq.below _)
theorem Levs.of_owns {w : World} {base : Nat} {e : TypeId} {v : Value} {xs : List Lev} (h : w.ownsRow base e 2 v xs.length (xs.flatMap Lev.cells)) : Levs w v xs := Sl.of_owns h
theorem Lev.len_cells (xs : List Lev) : (xs.flatMap Lev.cells).length = xs.length * 2 := flat_len (f := Lev.cells) (fun _ => rfl) xs
theorem Levs.at {w : World} {a : Option Addr} {cap : Nat} {xs : List Lev} {k : Nat} (h : Levs w (.slice a xs.length cap) xs) (hk : k < xs.length) :
    ∃ b off, a = some ⟨b, off, none⟩ ∧ b < w.heap.size ∧ w.cell? ⟨b, off + k * 2, none⟩ = some (.int .i64 xs[k].inn) ∧ w.cell? ⟨b, off + k * 2 + 1, none⟩ = some (.int .i64 xs[k].out) := by
  obtain ⟨b, off, rfl, hc⟩ := Sl.cells h (by rw [Lev.len_cells]; omega)
  have h0 := hc (k * 2 + 0) _ (flat_at (f := Lev.cells) (m := 2) (fun _ => rfl) xs k 0 hk (by omega) (u := .int .i64 xs[k].inn) rfl)
  have h1 := hc (k * 2 + 1) _ (flat_at (f := Lev.cells) (m := 2) (fun _ => rfl) xs k 1 hk (by omega) (u := .int .i64 xs[k].out) rfl)
  exact ⟨b, off, rfl, World.block_lt_of_cell? w _ h0, by simpa [Nat.add_assoc] using h0, by simpa [Nat.add_assoc] using h1⟩

theorem toLev_any (x : Lev) (w : World) :
    Calls Tryd.prog 48 #[.agg #[.int .i64 x.inn, .int .i64 x.out]] w fun e w' => e = .returned (.agg #[.int .i64 x.inn, .int .i64 x.out]) ∧ Below w.heap.size w w' := by
  go_enter Tryd.func48, Tryd.ntmps48
  go_wp2
  refine bodyPost_ret (v := .agg #[.int .i64 x.inn, .int .i64 x.out]) (by simp [results, Tryd.results48, go_sem]) rfl ⟨rfl, ?_⟩
  (repeat (first | with_reducible exact Below.refl _ _ | with_reducible exact hbw | (with_reducible refine Below.setCell ?_ ?_ _; rotate_left; · first | exact Nat.le_refl _ | omega | (simp; done) | (simp; omega)) | (with_reducible refine Below.alloc ?_ ?_ _; rotate_left; · first | exact Nat.le_refl _ | omega | (simp; done) | (simp; omega)) | with_reducible refine below_drewN ?_ _ | with_reducible refine Below.drew ?_))

theorem eqLev_any (x y : Lev) (w : World) :
    Calls Tryd.prog 58 #[.agg #[.int .i64 x.inn, .int .i64 x.out], .agg #[.int .i64 y.inn, .int .i64 y.out]] w fun e w' => e = .returned (.bool (decide (x = y))) ∧ Below w.heap.size w w' := by
  by_cases h0 : x.inn = y.inn
  · skip
    by_cases h1 : x.out = y.out
    · skip
      have e_inn : (x.inn != y.inn) = false := by simpa using h0
      have e_out : (x.out != y.out) = false := by simpa using h1
      have hd : decide (x = y) = true := by apply decide_eq_true; rw [Lev.ext_iff']; simp [*]
      have HD := Lib.hid hd; clear hd h0 h1
      go_enter Tryd.func58, Tryd.ntmps58
      go_wp2
      go_ret
      refine ⟨by rw [HD.out]; rfl, ?_⟩
      (repeat (first | with_reducible exact Below.refl _ _ | with_reducible exact hbw | (with_reducible refine Below.setCell ?_ ?_ _; rotate_left; · first | exact Nat.le_refl _ | omega | (simp; done) | (simp; omega)) | (with_reducible refine Below.alloc ?_ ?_ _; rotate_left; · first | exact Nat.le_refl _ | omega | (simp; done) | (simp; omega)) | with_reducible refine below_drewN ?_ _ | with_reducible refine Below.drew ?_))
    · skip
      have e_inn : (x.inn != y.inn) = false := by simpa using h0
      have e_out : (x.out != y.out) = true := by simpa using h1
      have hd : decide (x = y) = false := by apply decide_eq_false; rw [Lev.ext_iff']; simp [*]
      have HD := Lib.hid hd; clear hd h0 h1
      go_enter Tryd.func58, Tryd.ntmps58
      go_wp2
      go_ret
      refine ⟨by rw [HD.out]; rfl, ?_⟩
      (repeat (first | with_reducible exact Below.refl _ _ | with_reducible exact hbw | (with_reducible refine Below.setCell ?_ ?_ _; rotate_left; · first | exact Nat.le_refl _ | omega | (simp; done) | (simp; omega)) | (with_reducible refine Below.alloc ?_ ?_ _; rotate_left; · first | exact Nat.le_refl _ | omega | (simp; done) | (simp; omega)) | with_reducible refine below_drewN ?_ _ | with_reducible refine Below.drew ?_))
  · skip
    have e_inn : (x.inn != y.inn) = true := by simpa using h0
    have hd : decide (x = y) = false := by apply decide_eq_false; rw [Lev.ext_iff']; simp [*]
    have HD := Lib.hid hd; clear hd h0
    go_enter Tryd.func58, Tryd.ntmps58
    go_wp2
    go_ret
    refine ⟨by rw [HD.out]; rfl, ?_⟩
    (repeat (first | with_reducible exact Below.refl _ _ | with_reducible exact hbw | (with_reducible refine Below.setCell ?_ ?_ _; rotate_left; · first | exact Nat.le_refl _ | omega | (simp; done) | (simp; omega)) | (with_reducible refine Below.alloc ?_ ?_ _; rotate_left; · first | exact Nat.le_refl _ | omega | (simp; done) | (simp; omega)) | with_reducible refine below_drewN ?_ _ | with_reducible refine Below.drew ?_))

theorem szLevs_any (v : Value) (xs : List Lev) (n : Nat) (left : Int) (w : World) (h1 : ∃ a cap, v = .slice a n cap) (h0 : 0 ≤ left) (hl : left ≤ 1048576) (hn : n ≤ maxLen) :
    Calls Tryd.prog 23 #[v, .int .i64 left] w fun e w' => e = .returned (.int .i64 (if left < n then -1 else left - n)) ∧ w' = w := by
  obtain ⟨a, cap, rfl⟩ := h1
  unfold maxLen at hn
  by_cases hc : left < n
  · have h2 : left - (n : Int) < 0 := by omega
    have hd : (if left < (n : Int) then (-1 : Int) else left - n) = -1 := if_pos hc
    have HD := Lib.hid hd; clear hd
    go_enter Tryd.func23, Tryd.ntmps23
    go_wp2
    go_ret
    exact ⟨by first | rfl | (rw [HD.out]; rfl), rfl⟩
  · have h2 : ¬ left - (n : Int) < 0 := by omega
    have hd : (if left < (n : Int) then (-1 : Int) else left - n) = left - n := if_neg hc
    have HD := Lib.hid hd; clear hd
    go_enter Tryd.func23, Tryd.ntmps23
    go_wp2
    go_ret
    exact ⟨by first | rfl | (rw [HD.out]; rfl), rfl⟩

theorem info_Lever : (Tryd.prog.info? 54).map (fun i => (i.zero, i.size, i.bytes)) = some (some (.agg #[.int .i64 0, .int .i64 0]), 2, 16) := by kernel_rfl

/-- The cells of a copy, k elements of it filled. -/
def partLev (xs : List Lev) (k : Nat) : List Value := (xs.take k).flatMap Lev.cells ++ List.replicate ((xs.length - k) * 2) (.int .i64 0)
theorem partLev_zero (xs : List Lev) : partLev xs 0 = List.replicate (xs.length * 2) (.int .i64 0) := by simp [partLev]
theorem partLev_all (xs : List Lev) (k : Nat) (h : ¬ k < xs.length) : partLev xs k = xs.flatMap Lev.cells := by simp [partLev, List.take_of_length_le (show xs.length ≤ k by omega), show xs.length - k = 0 by omega]
theorem partLev_open (xs : List Lev) (k : Nat) (h : k < xs.length) : partLev xs k = (xs.take k).flatMap Lev.cells ++ (.int .i64 0 :: .int .i64 0 :: List.replicate ((xs.length - (k + 1)) * 2) (.int .i64 0)) := by
  unfold partLev; rw [show (xs.length - k) * 2 = (xs.length - (k + 1)) * 2 + 2 by omega]; simp [List.replicate_succ]
theorem partLev_step (xs : List Lev) (k : Nat) (h : k < xs.length) : partLev xs (k + 1) = (xs.take k).flatMap Lev.cells ++ (.int .i64 xs[k].inn :: .int .i64 xs[k].out :: List.replicate ((xs.length - (k + 1)) * 2) (.int .i64 0)) := by
  unfold partLev; rw [List.take_succ_eq_append_getElem h]; simp only [List.flatMap_append, List.flatMap_cons, List.flatMap_nil, List.append_nil, List.append_assoc, Lev.cells, List.cons_append, List.nil_append]
theorem partLev_len (xs : List Lev) (k : Nat) (h : k ≤ xs.length) : ((xs.take k).flatMap Lev.cells).length = k * 2 := by rw [Lev.len_cells, List.length_take, Nat.min_eq_left h]

set_option maxHeartbeats 400000 in
theorem toLevs_any (v1 : Value) (xs : List Lev) (w : World) (h1 : Levs w v1 xs) (hs : xs.length ≤ 1048576) :
    Calls Tryd.prog 26 #[v1] w fun e w' => ∃ v, e = .returned v ∧ w'.ownsRow w.heap.size 54 2 v xs.length (xs.flatMap Lev.cells) ∧ Below w.heap.size w w' := by
  obtain ⟨a, ca, rfl, _, _, _⟩ := id h1
  obtain ⟨i0, hi, hz0, hz1, hz2⟩ := info_parts info_Lever
  have HS := Lib.hid hs; clear hs
  go_enter Tryd.func26, Tryd.ntmps26
  go_wp2_with (at_make; refine wpList_make_full _ rfl _ _ 27 rfl w.heap.size 54 i0 _ 2 Tryd.underlying27 hi hz0 hz1 _ _ _ _ xs.length rfl rfl rfl rfl (by rw [hz2]; have := HS.out; omega) (by have := HS.out; unfold maxLen; omega) (Nat.le_refl _) ?_)
  intro w1 hown hgrow
  have hb1 : Below w.heap.size w w1 := (Below.refl _ _).grown hgrow (Nat.le_refl _) (by simp)
  go_wp2
  go_loopw [4] (fun i wr => ∃ k : Nat, k ≤ xs.length ∧ i = .int .i64 k ∧ wr.ownsRow w.heap.size 54 2 (.slice (some ⟨w.heap.size, 0, none⟩) xs.length xs.length) xs.length (partLev xs k) ∧ Below w.heap.size w wr) (fun i _ => xs.length - (intOf i).toNat)
  case atStart => exact ⟨0, Nat.zero_le _, rfl, by rw [partLev_zero]; simpa [made_rep2, Value.cells] using hown, hb1⟩
  case round =>
    obtain ⟨k, hk, rfl, ho, hb⟩ := hrel
    clear hown hgrow hb1
    by_cases hlt : k < xs.length
    · obtain ⟨b1, o1, rfl, hB, c0, c1⟩ := (h1.mono hb).at hlt
      have hm : xs.length ≤ 1048576 := HS.out
      go_wp2_with fail
      refine (toLev_any xs[k] _).mono ?_
      rintro e w2 ⟨rfl, hb2⟩
      have ho2 := owns_mono ho hb2
      have hop := partLev_open xs k hlt
      have hpl := partLev_len xs k hk

      have d0 : w2.cell? ⟨w.heap.size, k * 2, none⟩ = some (.int .i64 0) := by rw [ho2.cellAt _ (by omega), hop, List.getElem?_append_right (by omega), hpl]; simp
      have f0 := ho2.frozenAt (k * 2)
      have d1 : w2.cell? ⟨w.heap.size, k * 2 + 1, none⟩ = some (.int .i64 0) := by rw [ho2.cellAt _ (by omega), hop, List.getElem?_append_right (by omega), hpl]; simp
      have f1 := ho2.frozenAt (k * 2 + 1)
      have HP := Lib.hid hop; have HL := Lib.hid hpl; have HO := Lib.hid ho2; clear hop hpl ho2 ho
      go_wp2
      have e := HO.out
      rw [HP.out] at e
      have e' := stored2 (A := (xs.take k).flatMap Lev.cells) e HL.out (.int .i64 xs[k].inn) (.int .i64 xs[k].out)
      rw [← partLev_step xs k hlt] at e'
      exact ⟨⟨k + 1, by omega, by go_num, e'.1, (hb.trans (hb2.mono hb.size)).grown e'.2 (by have := hb.size; have := hb2.size; omega) (by intro k hk; cases hk; exact Nat.le_refl _)⟩, by simp [intOf]; omega⟩
    · go_wp2
      go_ret
      exact ⟨_, rfl, by rw [← partLev_all xs k hlt]; exact ho, hb⟩

end Go.Proofs.YtijhlllajddlpaaDoor
