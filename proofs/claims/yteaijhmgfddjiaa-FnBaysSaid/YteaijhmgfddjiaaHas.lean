/- Contract of l00Has. -/
import Derived.Test.YteaijhmgfddjiaaWithin
import Derived.Deep.QuietTactic
import Derived.BigQuiet
set_option linter.unusedSimpArgs false
set_option linter.unnecessarySimpa false
set_option linter.unusedVariables false
set_option maxRecDepth 100000
namespace Go.Proofs.Yteaijhmgfddjiaa
open Go.RowKit

theorem not_mem_step {xs : List Int} {n : Int} {k : Nat} (h : k < xs.length) (ht : n ∉ xs.take k) (hn : ¬ xs[k] = n) : n ∉ xs.take (k + 1) := by
  rw [List.take_succ_eq_append_getElem h, List.mem_append, List.mem_singleton]
  rintro (h | h)
  · exact ht h
  · exact hn h.symm

set_option maxHeartbeats 400000 in
theorem l00Has_any (v : Value) (xs : List Int) (n : Int) (w : World) (h : Ints w v xs) :
    Calls Try.prog 73 #[v, .int .i64 n] w fun e w' => e = .returned (.bool (decide (n ∈ xs))) ∧ Q w w' := by
  obtain ⟨a, ca, rfl, hca, hcm, _⟩ := id h
  have hm : xs.length ≤ maxLen := by omega
  clear hca hcm
  unfold maxLen at hm
  go_enter Try.func73, Try.ntmps73
  go_wp2
  go_loopw [5] (fun i wr => ∃ k : Nat, k ≤ xs.length ∧ i = .int .i64 k ∧ n ∉ xs.take k ∧ Q w wr) (fun i _ => xs.length - (intOf i).toNat)
  case atStart => exact ⟨0, Nat.zero_le _, rfl, by simp, Q.refl _⟩
  case round =>
    obtain ⟨k, hk, rfl, ht, hq⟩ := hrel
    have HT := Lib.hid ht; clear ht
    by_cases hlt : k < xs.length
    · obtain ⟨b1, o1, rfl, c1⟩ := (h.q hq).cells (by simp; omega)
      have d1 : wr.cell? ⟨b1, o1 + k, none⟩ = some (.int .i64 xs[k]) := c1 k _ (by simp [hlt])
      clear c1
      by_cases he : xs[k] = n
      · have d2 : (xs[k] == n) = true := by simpa using he
        have HM := Lib.hid (show decide (n ∈ xs) = true by rw [← he]; simp)
        clear he
        go_wp2
        go_ret
        exact ⟨ret_bool HM.out.symm, hq⟩
      · have d2 : (xs[k] == n) = false := by simpa using he
        have HE := Lib.hid he; clear he
        go_wp2
        go_roundw
        case rel => exact ⟨k + 1, by omega, by go_num, not_mem_step hlt HT.out HE.out, hq⟩
        case measure => simp [intOf] <;> omega
    · have HM := Lib.hid (show decide (n ∈ xs) = false by have := HT.out; rw [List.take_of_length_le (by omega)] at this; simpa using this)
      go_wp2
      go_ret
      exact ⟨ret_bool HM.out.symm, hq⟩

theorem l00HasB_any (r : Bool) (v : Value) (xs : List Int) (n : Int) (w : World) (h : Ints w v xs) (hr : r = decide (n ∈ xs)) :
    Calls Try.prog 73 #[v, .int .i64 n] w fun e w' => e = .returned (.bool r) ∧ Q w w' := by
  rw [hr]; exact l00Has_any v xs n w h

end Go.Proofs.Yteaijhmgfddjiaa
