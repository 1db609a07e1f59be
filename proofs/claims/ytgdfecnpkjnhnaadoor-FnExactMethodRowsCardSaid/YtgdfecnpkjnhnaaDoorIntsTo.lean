/- The contract of the laws' copy of a slice of numbers. -/
import Derived.Test.YtgdfecnpkjnhnaaDoorInfo
set_option linter.unusedSimpArgs false
set_option linter.unnecessarySimpa false
set_option linter.unusedVariables false
namespace Go.Proofs.YtgdfecnpkjnhnaaDoor
open Go.RowKit



/-- The cells of a copy of numbers, k of them filled. -/
def part (xs : List Int) (k : Nat) : List Value := (xs.take k).map (Value.int .i64) ++ List.replicate (xs.length - k) (.int .i64 0)
theorem part_zero (xs : List Int) : part xs 0 = List.replicate xs.length (.int .i64 0) := by simp [part]
theorem part_all (xs : List Int) (k : Nat) (h : ¬ k < xs.length) : part xs k = xs.map (Value.int .i64) := by
  simp [part, List.take_of_length_le (show xs.length ≤ k by omega), show xs.length - k = 0 by omega]
theorem part_set (xs : List Int) (k : Nat) (h : k < xs.length) : (part xs k).set k (.int .i64 xs[k]) = part xs (k + 1) := by
  unfold part
  rw [List.take_succ_eq_append_getElem h, List.set_append_right _ _ (by simp; omega), show xs.length - k = (xs.length - (k + 1)) + 1 by omega, List.replicate_succ]
  simp only [List.length_map, List.length_take, Nat.min_eq_left (Nat.le_of_lt h), Nat.sub_self, List.set_cons_zero, List.map_append, List.map_cons, List.map_nil, List.append_assoc, List.singleton_append]

theorem part_at (xs : List Int) (k : Nat) (h : k < xs.length) : (part xs k)[k]? = some (.int .i64 0) := by
  unfold part
  rw [List.getElem?_append_right (by simp; omega)]
  simp [Nat.min_eq_left (Nat.le_of_lt h), List.getElem?_replicate]; omega

end Go.Proofs.YtgdfecnpkjnhnaaDoor
