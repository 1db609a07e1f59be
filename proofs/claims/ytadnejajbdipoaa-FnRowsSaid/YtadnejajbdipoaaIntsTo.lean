/- The contract of the laws' copy of a slice of numbers. -/
import Derived.Test.YtadnejajbdipoaaInfo
set_option linter.unusedSimpArgs false
set_option linter.unnecessarySimpa false
set_option linter.unusedVariables false
namespace Go.Proofs.Ytadnejajbdipoaa
open Go.RowKit



/-- The cells of a copy of numbers, k of them filled. -/
def part (xs : List Int) (k : Nat) : List Value := (xs.take k).map (Value.int .i64) ++ List.replicate (xs.length - k) (.int .i64 0)
theorem part_zero (xs : List Int) : part xs 0 = List.replicate xs.length (.int .i64 0) := by simp [part]
theorem part_all (xs : List Int) (k : Nat) (h : ¬ k < xs.length) : part xs k = xs.map (Value.int .i64) := by
  simp [part, List.take_of_length_le (show xs.length ≤ k by omega), show xs.length - k = 0 by omega]
theorem part_set (xs : List Int) (k : Nat) (h : k < xs.length) : (part xs k).set k (.int .i64 xs[k]) = part xs (k + 1) := by
  unfold part
  rw [List.take_succ_eq_append_getElem h, List.set_append_right _ _ (by simp; omega), show xs.length - k = (xs.length - (k + 1)) + 1 by omega, List.replicate_succ]
  simp only [List.length_map, List.length_take, Nat.min_eq_left (Nat.le_of_lt h), Nat.sub_self, List.set_cons_zero, List.map_append, List.map_cons, List.map_nil, List.append_assoc, List.singleton_append]

theorem part_at (xs : List Int) (k : Nat) (h : k < xs.length) : (part xs k)[k]? = some (.int .i64 0) := by
  unfold part
  rw [List.getElem?_append_right (by simp; omega)]
  simp [Nat.min_eq_left (Nat.le_of_lt h), List.getElem?_replicate]; omega

set_option maxHeartbeats 400000 in
theorem toInts_any (v1 : Value) (xs : List Int) (w : World) (h1 : Ints w v1 xs) (hs : xs.length ≤ 1048576) :
    Calls Try.prog 12 #[v1] w fun e w' => ∃ v, e = .returned v ∧ w'.ownsRow w.heap.size 2 1 v xs.length (xs.map (Value.int .i64)) ∧ Below w.heap.size w w' := by
  obtain ⟨a, ca, rfl, _, _, _⟩ := id h1
  obtain ⟨i0, hi, hz0, hz1, hz2⟩ := info_parts info_int
  have HS := Lib.hid hs; clear hs
  go_enter Try.func12, Try.ntmps12
  go_wp2_with (at_make; refine wpList_make_full _ rfl _ _ 24 rfl w.heap.size 2 i0 (.int .i64 0) 1 Try.underlying24 hi hz0 hz1 _ _ _ _ xs.length rfl rfl rfl rfl (by rw [hz2]; have := HS.out; omega) (by have := HS.out; unfold maxLen; omega) (Nat.le_refl _) ?_)
  intro w1 hown hgrow
  have hb1 : Below w.heap.size w w1 := (Below.refl _ _).grown hgrow (Nat.le_refl _) (by simp)
  go_wp2
  go_loopw [4] (fun i wr => ∃ k : Nat, k ≤ xs.length ∧ i = .int .i64 k ∧ wr.ownsRow w.heap.size 2 1 (.slice (some ⟨w.heap.size, 0, none⟩) xs.length xs.length) xs.length (part xs k) ∧ Below w.heap.size w wr) (fun i _ => xs.length - (intOf i).toNat)
  case atStart => exact ⟨0, Nat.zero_le _, rfl, by rw [part_zero]; simpa [toList_madeCells_one, Value.cells] using hown, hb1⟩
  case round =>
    obtain ⟨k, hk, rfl, ho, hb⟩ := hrel
    clear hown hgrow hb1
    by_cases hlt : k < xs.length
    · obtain ⟨b1, o1, rfl, c1⟩ := (h1.mono hb).cells (by simp; omega)
      have d1 : wr.cell? ⟨b1, o1 + k, none⟩ = some (.int .i64 xs[k]) := c1 k _ (by simp [hlt])
      have d2 : wr.cell? ⟨w.heap.size, k, none⟩ = some (.int .i64 0) := by rw [ho.cellAt k (by omega)]; exact part_at xs k hlt
      have d3 := ho.frozenAt k
      clear c1
      have hm : xs.length ≤ 1048576 := HS.out
      go_wp2
      have e := ho.stored k (.int .i64 xs[k])
      rw [part_set xs k hlt] at e
      exact ⟨⟨k + 1, by omega, by go_num, e.1, hb.setCell (Nat.le_refl _) _⟩, by simp [intOf]; omega⟩
    · go_wp2
      go_ret
      exact ⟨_, rfl, by rw [← part_all xs k hlt]; exact ho, hb⟩

end Go.Proofs.Ytadnejajbdipoaa
