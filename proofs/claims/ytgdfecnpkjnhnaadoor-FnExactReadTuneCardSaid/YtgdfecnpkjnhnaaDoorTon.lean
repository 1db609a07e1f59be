/- Contracts of the laws' helpers over Tone and slices of it: copy, equality, size, marks. -/
import Derived.Test.YtgdfecnpkjnhnaaDoorChecked
import Derived.Test.YtgdfecnpkjnhnaaDoorRegion
import Derived.Deep.QuietTactic
import Derived.BigQuiet
set_option linter.unusedSimpArgs false
set_option linter.unnecessarySimpa false
set_option linter.unusedVariables false
namespace Go.Proofs.YtgdfecnpkjnhnaaDoor
open Go.RowKit

structure Ton where
  note : Int
  start : Int
  len : Int
  deriving DecidableEq

def Ton.val (x : Ton) : Value := .agg #[.int .i64 x.note, .int .i64 x.start, .int .i64 x.len]
def Ton.cells (x : Ton) : List Value := [.int .i64 x.note, .int .i64 x.start, .int .i64 x.len]
def Tons (w : World) (v : Value) (xs : List Ton) : Prop := Sl w v xs.length (xs.flatMap Ton.cells)
theorem Ton.ext_iff' (x y : Ton) : x = y ↔ x.note = y.note ∧ x.start = y.start ∧ x.len = y.len := by cases x; cases y; simp [Ton.mk.injEq]
theorem Tons.mono {w w' : World} {v : Value} {xs : List Ton} (h : Tons w v xs) (hb : Below w.heap.size w w') : Tons w' v xs := Sl.mono h hb
theorem Tons.q {w w' : World} {v : Value} {xs : List Ton} (h : Tons w v xs) (hq : Q w w') : Tons w' v xs := h.mono (hq.below _)
theorem Tons.of_owns {w : World} {base : Nat} {e : TypeId} {v : Value} {xs : List Ton} (h : w.ownsRow base e 3 v xs.length (xs.flatMap Ton.cells)) : Tons w v xs := Sl.of_owns h
theorem Ton.len_cells (xs : List Ton) : (xs.flatMap Ton.cells).length = xs.length * 3 := flat_len (f := Ton.cells) (fun _ => rfl) xs
theorem Tons.at {w : World} {a : Option Addr} {cap : Nat} {xs : List Ton} {k : Nat} (h : Tons w (.slice a xs.length cap) xs) (hk : k < xs.length) :
    ∃ b off, a = some ⟨b, off, none⟩ ∧ b < w.heap.size ∧ w.cell? ⟨b, off + k * 3, none⟩ = some (.int .i64 xs[k].note) ∧ w.cell? ⟨b, off + k * 3 + 1, none⟩ = some (.int .i64 xs[k].start) ∧ w.cell? ⟨b, off + k * 3 + 2, none⟩ = some (.int .i64 xs[k].len) := by
  obtain ⟨b, off, rfl, hc⟩ := Sl.cells h (by rw [Ton.len_cells]; omega)
  have h0 := hc (k * 3 + 0) _ (flat_at (f := Ton.cells) (m := 3) (fun _ => rfl) xs k 0 hk (by omega) (u := .int .i64 xs[k].note) rfl)
  have h1 := hc (k * 3 + 1) _ (flat_at (f := Ton.cells) (m := 3) (fun _ => rfl) xs k 1 hk (by omega) (u := .int .i64 xs[k].start) rfl)
  have h2 := hc (k * 3 + 2) _ (flat_at (f := Ton.cells) (m := 3) (fun _ => rfl) xs k 2 hk (by omega) (u := .int .i64 xs[k].len) rfl)
  exact ⟨b, off, rfl, World.block_lt_of_cell? w _ h0, by simpa [Nat.add_assoc] using h0, by simpa [Nat.add_assoc] using h1, by simpa [Nat.add_assoc] using h2⟩

theorem toTon_any (x : Ton) (w : World) :
    Calls Tryd.prog 69 #[.agg #[.int .i64 x.note, .int .i64 x.start, .int .i64 x.len]] w fun e w' => e = .returned (.agg #[.int .i64 x.note, .int .i64 x.start, .int .i64 x.len]) ∧ Below w.heap.size w w' := by
  go_enter Tryd.func69, Tryd.ntmps69
  go_wp2
  refine bodyPost_ret (v := .agg #[.int .i64 x.note, .int .i64 x.start, .int .i64 x.len]) (by simp [results, Tryd.results69, go_sem]) rfl ⟨rfl, ?_⟩
  (repeat (first | with_reducible exact Below.refl _ _ | with_reducible exact hbw | (with_reducible refine Below.setCell ?_ ?_ _; rotate_left; · first | exact Nat.le_refl _ | omega | (simp; done) | (simp; omega)) | (with_reducible refine Below.alloc ?_ ?_ _; rotate_left; · first | exact Nat.le_refl _ | omega | (simp; done) | (simp; omega)) | with_reducible refine below_drewN ?_ _ | with_reducible refine Below.drew ?_))

theorem eqTon_any (x y : Ton) (w : World) :
    Calls Tryd.prog 78 #[.agg #[.int .i64 x.note, .int .i64 x.start, .int .i64 x.len], .agg #[.int .i64 y.note, .int .i64 y.start, .int .i64 y.len]] w fun e w' => e = .returned (.bool (decide (x = y))) ∧ Below w.heap.size w w' := by
  by_cases h0 : x.note = y.note
  · skip
    by_cases h1 : x.start = y.start
    · skip
      by_cases h2 : x.len = y.len
      · skip
        have e_note : (x.note != y.note) = false := by simpa using h0
        have e_start : (x.start != y.start) = false := by simpa using h1
        have e_len : (x.len != y.len) = false := by simpa using h2
        have hd : decide (x = y) = true := by apply decide_eq_true; rw [Ton.ext_iff']; simp [*]
        have HD := Lib.hid hd; clear hd h0 h1 h2
        go_enter Tryd.func78, Tryd.ntmps78
        go_wp2
        go_ret
        refine ⟨by rw [HD.out]; rfl, ?_⟩
        (repeat (first | with_reducible exact Below.refl _ _ | with_reducible exact hbw | (with_reducible refine Below.setCell ?_ ?_ _; rotate_left; · first | exact Nat.le_refl _ | omega | (simp; done) | (simp; omega)) | (with_reducible refine Below.alloc ?_ ?_ _; rotate_left; · first | exact Nat.le_refl _ | omega | (simp; done) | (simp; omega)) | with_reducible refine below_drewN ?_ _ | with_reducible refine Below.drew ?_))
      · skip
        have e_note : (x.note != y.note) = false := by simpa using h0
        have e_start : (x.start != y.start) = false := by simpa using h1
        have e_len : (x.len != y.len) = true := by simpa using h2
        have hd : decide (x = y) = false := by apply decide_eq_false; rw [Ton.ext_iff']; simp [*]
        have HD := Lib.hid hd; clear hd h0 h1 h2
        go_enter Tryd.func78, Tryd.ntmps78
        go_wp2
        go_ret
        refine ⟨by rw [HD.out]; rfl, ?_⟩
        (repeat (first | with_reducible exact Below.refl _ _ | with_reducible exact hbw | (with_reducible refine Below.setCell ?_ ?_ _; rotate_left; · first | exact Nat.le_refl _ | omega | (simp; done) | (simp; omega)) | (with_reducible refine Below.alloc ?_ ?_ _; rotate_left; · first | exact Nat.le_refl _ | omega | (simp; done) | (simp; omega)) | with_reducible refine below_drewN ?_ _ | with_reducible refine Below.drew ?_))
    · skip
      have e_note : (x.note != y.note) = false := by simpa using h0
      have e_start : (x.start != y.start) = true := by simpa using h1
      have hd : decide (x = y) = false := by apply decide_eq_false; rw [Ton.ext_iff']; simp [*]
      have HD := Lib.hid hd; clear hd h0 h1
      go_enter Tryd.func78, Tryd.ntmps78
      go_wp2
      go_ret
      refine ⟨by rw [HD.out]; rfl, ?_⟩
      (repeat (first | with_reducible exact Below.refl _ _ | with_reducible exact hbw | (with_reducible refine Below.setCell ?_ ?_ _; rotate_left; · first | exact Nat.le_refl _ | omega | (simp; done) | (simp; omega)) | (with_reducible refine Below.alloc ?_ ?_ _; rotate_left; · first | exact Nat.le_refl _ | omega | (simp; done) | (simp; omega)) | with_reducible refine below_drewN ?_ _ | with_reducible refine Below.drew ?_))
  · skip
    have e_note : (x.note != y.note) = true := by simpa using h0
    have hd : decide (x = y) = false := by apply decide_eq_false; rw [Ton.ext_iff']; simp [*]
    have HD := Lib.hid hd; clear hd h0
    go_enter Tryd.func78, Tryd.ntmps78
    go_wp2
    go_ret
    refine ⟨by rw [HD.out]; rfl, ?_⟩
    (repeat (first | with_reducible exact Below.refl _ _ | with_reducible exact hbw | (with_reducible refine Below.setCell ?_ ?_ _; rotate_left; · first | exact Nat.le_refl _ | omega | (simp; done) | (simp; omega)) | (with_reducible refine Below.alloc ?_ ?_ _; rotate_left; · first | exact Nat.le_refl _ | omega | (simp; done) | (simp; omega)) | with_reducible refine below_drewN ?_ _ | with_reducible refine Below.drew ?_))

theorem szTons_any (v : Value) (xs : List Ton) (n : Nat) (left : Int) (w : World) (h1 : ∃ a cap, v = .slice a n cap) (h0 : 0 ≤ left) (hl : left ≤ 1048576) (hn : n ≤ maxLen) :
    Calls Tryd.prog 33 #[v, .int .i64 left] w fun e w' => e = .returned (.int .i64 (if left < n then -1 else left - n)) ∧ w' = w := by
  obtain ⟨a, cap, rfl⟩ := h1
  unfold maxLen at hn
  by_cases hc : left < n
  · have h2 : left - (n : Int) < 0 := by omega
    have hd : (if left < (n : Int) then (-1 : Int) else left - n) = -1 := if_pos hc
    have HD := Lib.hid hd; clear hd
    go_enter Tryd.func33, Tryd.ntmps33
    go_wp2
    go_ret
    exact ⟨by first | rfl | (rw [HD.out]; rfl), rfl⟩
  · have h2 : ¬ left - (n : Int) < 0 := by omega
    have hd : (if left < (n : Int) then (-1 : Int) else left - n) = left - n := if_neg hc
    have HD := Lib.hid hd; clear hd
    go_enter Tryd.func33, Tryd.ntmps33
    go_wp2
    go_ret
    exact ⟨by first | rfl | (rw [HD.out]; rfl), rfl⟩

theorem info_Tone : (Tryd.prog.info? 59).map (fun i => (i.zero, i.size, i.bytes)) = some (some (.agg #[.int .i64 0, .int .i64 0, .int .i64 0]), 3, 24) := by kernel_rfl

/-- The cells of a copy, k elements of it filled. -/
def partTon (xs : List Ton) (k : Nat) : List Value := (xs.take k).flatMap Ton.cells ++ List.replicate ((xs.length - k) * 3) (.int .i64 0)
theorem partTon_zero (xs : List Ton) : partTon xs 0 = List.replicate (xs.length * 3) (.int .i64 0) := by simp [partTon]
theorem partTon_all (xs : List Ton) (k : Nat) (h : ¬ k < xs.length) : partTon xs k = xs.flatMap Ton.cells := by simp [partTon, List.take_of_length_le (show xs.length ≤ k by omega), show xs.length - k = 0 by omega]
theorem partTon_open (xs : List Ton) (k : Nat) (h : k < xs.length) : partTon xs k = (xs.take k).flatMap Ton.cells ++ (.int .i64 0 :: .int .i64 0 :: .int .i64 0 :: List.replicate ((xs.length - (k + 1)) * 3) (.int .i64 0)) := by
  unfold partTon; rw [show (xs.length - k) * 3 = (xs.length - (k + 1)) * 3 + 3 by omega]; simp [List.replicate_succ]
theorem partTon_step (xs : List Ton) (k : Nat) (h : k < xs.length) : partTon xs (k + 1) = (xs.take k).flatMap Ton.cells ++ (.int .i64 xs[k].note :: .int .i64 xs[k].start :: .int .i64 xs[k].len :: List.replicate ((xs.length - (k + 1)) * 3) (.int .i64 0)) := by
  unfold partTon; rw [List.take_succ_eq_append_getElem h]; simp only [List.flatMap_append, List.flatMap_cons, List.flatMap_nil, List.append_nil, List.append_assoc, Ton.cells, List.cons_append, List.nil_append]
theorem partTon_len (xs : List Ton) (k : Nat) (h : k ≤ xs.length) : ((xs.take k).flatMap Ton.cells).length = k * 3 := by rw [Ton.len_cells, List.length_take, Nat.min_eq_left h]

set_option maxHeartbeats 400000 in
theorem toTons_any (v1 : Value) (xs : List Ton) (w : World) (h1 : Tons w v1 xs) (hs : xs.length ≤ 1048576) :
    Calls Tryd.prog 36 #[v1] w fun e w' => ∃ v, e = .returned v ∧ w'.ownsRow w.heap.size 59 3 v xs.length (xs.flatMap Ton.cells) ∧ Below w.heap.size w w' := by
  obtain ⟨a, ca, rfl, _, _, _⟩ := id h1
  obtain ⟨i0, hi, hz0, hz1, hz2⟩ := info_parts info_Tone
  have HS := Lib.hid hs; clear hs
  go_enter Tryd.func36, Tryd.ntmps36
  go_wp2_with (at_make; refine wpList_make_full _ rfl _ _ 33 rfl w.heap.size 59 i0 _ 3 Tryd.underlying33 hi hz0 hz1 _ _ _ _ xs.length rfl rfl rfl rfl (by rw [hz2]; have := HS.out; omega) (by have := HS.out; unfold maxLen; omega) (Nat.le_refl _) ?_)
  intro w1 hown hgrow
  have hb1 : Below w.heap.size w w1 := (Below.refl _ _).grown hgrow (Nat.le_refl _) (by simp)
  go_wp2
  go_loopw [4] (fun i wr => ∃ k : Nat, k ≤ xs.length ∧ i = .int .i64 k ∧ wr.ownsRow w.heap.size 59 3 (.slice (some ⟨w.heap.size, 0, none⟩) xs.length xs.length) xs.length (partTon xs k) ∧ Below w.heap.size w wr) (fun i _ => xs.length - (intOf i).toNat)
  case atStart => exact ⟨0, Nat.zero_le _, rfl, by rw [partTon_zero]; simpa [made_rep3, Value.cells] using hown, hb1⟩
  case round =>
    obtain ⟨k, hk, rfl, ho, hb⟩ := hrel
    clear hown hgrow hb1
    by_cases hlt : k < xs.length
    · obtain ⟨b1, o1, rfl, hB, c0, c1, c2⟩ := (h1.mono hb).at hlt
      have hm : xs.length ≤ 1048576 := HS.out
      go_wp2_with fail
      refine (toTon_any xs[k] _).mono ?_
      rintro e w2 ⟨rfl, hb2⟩
      have ho2 := owns_mono ho hb2
      have hop := partTon_open xs k hlt
      have hpl := partTon_len xs k hk

      have d0 : w2.cell? ⟨w.heap.size, k * 3, none⟩ = some (.int .i64 0) := by rw [ho2.cellAt _ (by omega), hop, List.getElem?_append_right (by omega), hpl]; simp
      have f0 := ho2.frozenAt (k * 3)
      have d1 : w2.cell? ⟨w.heap.size, k * 3 + 1, none⟩ = some (.int .i64 0) := by rw [ho2.cellAt _ (by omega), hop, List.getElem?_append_right (by omega), hpl]; simp
      have f1 := ho2.frozenAt (k * 3 + 1)
      have d2 : w2.cell? ⟨w.heap.size, k * 3 + 2, none⟩ = some (.int .i64 0) := by rw [ho2.cellAt _ (by omega), hop, List.getElem?_append_right (by omega), hpl]; simp
      have f2 := ho2.frozenAt (k * 3 + 2)
      have HP := Lib.hid hop; have HL := Lib.hid hpl; have HO := Lib.hid ho2; clear hop hpl ho2 ho
      go_wp2
      have e := HO.out
      rw [HP.out] at e
      have e' := stored3 (A := (xs.take k).flatMap Ton.cells) e HL.out (.int .i64 xs[k].note) (.int .i64 xs[k].start) (.int .i64 xs[k].len)
      rw [← partTon_step xs k hlt] at e'
      exact ⟨⟨k + 1, by omega, by go_num, e'.1, (hb.trans (hb2.mono hb.size)).grown e'.2 (by have := hb.size; have := hb2.size; omega) (by intro k hk; cases hk; exact Nat.le_refl _)⟩, by simp [intOf]; omega⟩
    · go_wp2
      go_ret
      exact ⟨_, rfl, by rw [← partTon_all xs k hlt]; exact ho, hb⟩

end Go.Proofs.YtgdfecnpkjnhnaaDoor
