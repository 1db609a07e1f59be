/- Contracts of the laws' helpers over Tone and slices of it: copy, equality, size, marks. -/
import Derived.Test.YthnnjjcopehccaaChecked
import Derived.Test.YthnnjjcopehccaaRegion
import Derived.Deep.QuietTactic
import Derived.BigQuiet
set_option linter.unusedSimpArgs false
set_option linter.unnecessarySimpa false
set_option linter.unusedVariables false
namespace Go.Proofs.Ythnnjjcopehccaa
open Go.RowKit

structure Ton where
  note : Int
  start : Int
  len : Int
  deriving DecidableEq

def Ton.val (x : Ton) : Value := .agg #[.int .i64 x.note, .int .i64 x.start, .int .i64 x.len]
def Ton.cells (x : Ton) : List Value := [.int .i64 x.note, .int .i64 x.start, .int .i64 x.len]
def Tons (w : World) (v : Value) (xs : List Ton) : Prop := Sl w v xs.length (xs.flatMap Ton.cells)
theorem Ton.ext_iff' (x y : Ton) : x = y ↔ x.note = y.note ∧ x.start = y.start ∧ x.len = y.len := by cases x; cases y; simp [Ton.mk.injEq]
theorem Tons.mono {w w' : World} {v : Value} {xs : List Ton} (h : Tons w v xs) (hb : Below w.heap.size w w') : Tons w' v xs := Sl.mono h hb
theorem Tons.q {w w' : World} {v : Value} {xs : List Ton} (h : Tons w v xs) (hq : Q w w') : Tons w' v xs := h.mono (hq.below _)
theorem Tons.of_owns {w : World} {base : Nat} {e : TypeId} {v : Value} {xs : List Ton} (h : w.ownsRow base e 3 v xs.length (xs.flatMap Ton.cells)) : Tons w v xs := Sl.of_owns h
theorem Ton.len_cells (xs : List Ton) : (xs.flatMap Ton.cells).length = xs.length * 3 := flat_len (f := Ton.cells) (fun _ => rfl) xs
theorem Tons.at {w : World} {a : Option Addr} {cap : Nat} {xs : List Ton} {k : Nat} (h : Tons w (.slice a xs.length cap) xs) (hk : k < xs.length) :
    ∃ b off, a = some ⟨b, off, none⟩ ∧ b < w.heap.size ∧ w.cell? ⟨b, off + k * 3, none⟩ = some (.int .i64 xs[k].note) ∧ w.cell? ⟨b, off + k * 3 + 1, none⟩ = some (.int .i64 xs[k].start) ∧ w.cell? ⟨b, off + k * 3 + 2, none⟩ = some (.int .i64 xs[k].len) := by
  obtain ⟨b, off, rfl, hc⟩ := Sl.cells h (by rw [Ton.len_cells]; omega)
  have h0 := hc (k * 3 + 0) _ (flat_at (f := Ton.cells) (m := 3) (fun _ => rfl) xs k 0 hk (by omega) (u := .int .i64 xs[k].note) rfl)
  have h1 := hc (k * 3 + 1) _ (flat_at (f := Ton.cells) (m := 3) (fun _ => rfl) xs k 1 hk (by omega) (u := .int .i64 xs[k].start) rfl)
  have h2 := hc (k * 3 + 2) _ (flat_at (f := Ton.cells) (m := 3) (fun _ => rfl) xs k 2 hk (by omega) (u := .int .i64 xs[k].len) rfl)
  exact ⟨b, off, rfl, World.block_lt_of_cell? w _ h0, by simpa [Nat.add_assoc] using h0, by simpa [Nat.add_assoc] using h1, by simpa [Nat.add_assoc] using h2⟩

theorem info_Tone : (Try.prog.info? 30).map (fun i => (i.zero, i.size, i.bytes)) = some (some (.agg #[.int .i64 0, .int .i64 0, .int .i64 0]), 3, 24) := by kernel_rfl

/-- The cells of a copy, k elements of it filled. -/
def partTon (xs : List Ton) (k : Nat) : List Value := (xs.take k).flatMap Ton.cells ++ List.replicate ((xs.length - k) * 3) (.int .i64 0)
theorem partTon_zero (xs : List Ton) : partTon xs 0 = List.replicate (xs.length * 3) (.int .i64 0) := by simp [partTon]
theorem partTon_all (xs : List Ton) (k : Nat) (h : ¬ k < xs.length) : partTon xs k = xs.flatMap Ton.cells := by simp [partTon, List.take_of_length_le (show xs.length ≤ k by omega), show xs.length - k = 0 by omega]
theorem partTon_open (xs : List Ton) (k : Nat) (h : k < xs.length) : partTon xs k = (xs.take k).flatMap Ton.cells ++ (.int .i64 0 :: .int .i64 0 :: .int .i64 0 :: List.replicate ((xs.length - (k + 1)) * 3) (.int .i64 0)) := by
  unfold partTon; rw [show (xs.length - k) * 3 = (xs.length - (k + 1)) * 3 + 3 by omega]; simp [List.replicate_succ]
theorem partTon_step (xs : List Ton) (k : Nat) (h : k < xs.length) : partTon xs (k + 1) = (xs.take k).flatMap Ton.cells ++ (.int .i64 xs[k].note :: .int .i64 xs[k].start :: .int .i64 xs[k].len :: List.replicate ((xs.length - (k + 1)) * 3) (.int .i64 0)) := by
  unfold partTon; rw [List.take_succ_eq_append_getElem h]; simp only [List.flatMap_append, List.flatMap_cons, List.flatMap_nil, List.append_nil, List.append_assoc, Ton.cells, List.cons_append, List.nil_append]
theorem partTon_len (xs : List Ton) (k : Nat) (h : k ≤ xs.length) : ((xs.take k).flatMap Ton.cells).length = k * 3 := by rw [Ton.len_cells, List.length_take, Nat.min_eq_left h]

end Go.Proofs.Ythnnjjcopehccaa
