/- Contracts of slices.Index and slices.Contains at []int64. -/
import Derived.Test.YteaijhmgfddjiaaHas
set_option linter.unusedSimpArgs false
set_option linter.unnecessarySimpa false
set_option linter.unusedVariables false
set_option maxRecDepth 100000
namespace Go.Proofs.Yteaijhmgfddjiaa
open Go.RowKit

set_option maxHeartbeats 400000 in
theorem indexI_any (v : Value) (xs : List Int) (n : Int) (w : World) (h : Ints w v xs) :
    Calls Try.prog 76 #[v, .int .i64 n] w fun e w' => ∃ r : Int, e = .returned (.int .i64 r) ∧ (0 ≤ r ↔ n ∈ xs) ∧ Q w w' := by
  obtain ⟨a, ca, rfl, hca, hcm, _⟩ := id h
  have hm : xs.length ≤ maxLen := by omega
  clear hca hcm
  unfold maxLen at hm
  go_enter Try.func76, Try.ntmps76
  go_wp2
  go_loopw [8, 5] (fun i _ wr => ∃ k : Nat, k ≤ xs.length ∧ i = .int .i64 k ∧ n ∉ xs.take k ∧ Q w wr) (fun i _ _ => xs.length - (intOf i).toNat)
  case atStart => exact ⟨0, Nat.zero_le _, rfl, by simp, Q.refl _⟩
  case round =>
    obtain ⟨k, hk, rfl, ht, hq⟩ := hrel
    have HT := Lib.hid ht; clear ht
    by_cases hlt : k < xs.length
    · obtain ⟨b1, o1, rfl, c1⟩ := (h.q hq).cells (by simp; omega)
      have d1 : wr.cell? ⟨b1, o1 + k, none⟩ = some (.int .i64 xs[k]) := c1 k _ (by simp [hlt])
      clear c1
      by_cases he : xs[k] = n
      · have d2 : (n == xs[k]) = true := by simpa using he.symm
        have HM := Lib.hid (show n ∈ xs by rw [← he]; simp)
        clear he
        go_wp2
        go_ret
        exact ⟨k, rfl, ⟨fun _ => HM.out, fun _ => by omega⟩, hq⟩
      · have d2 : (n == xs[k]) = false := by simpa using fun e => he e.symm
        have HE := Lib.hid he; clear he
        go_wp2
        go_roundw
        case rel => exact ⟨k + 1, by omega, by go_num, not_mem_step hlt HT.out HE.out, hq⟩
        case measure => simp [intOf] <;> omega
    · have HM := Lib.hid (show n ∉ xs by have := HT.out; rwa [List.take_of_length_le (by omega)] at this)
      go_wp2
      go_ret
      exact ⟨-1, rfl, ⟨fun h => by omega, fun h => absurd h HM.out⟩, hq⟩

theorem containsI_any (b : Bool) (v : Value) (xs : List Int) (n : Int) (w : World) (h : Ints w v xs) (hb : b = decide (n ∈ xs)) :
    Calls Try.prog 59 #[v, .int .i64 n] w fun e w' => e = .returned (.bool b) ∧ Q w w' := by
  obtain ⟨a, ca, rfl, _, _, _⟩ := id h
  have HB := Lib.hid hb; clear hb
  go_enter Try.func59, Try.ntmps59
  go_wp2_with fail
  refine (indexI_any _ xs n _ h).mono ?_
  rintro e w1 ⟨r, rfl, hr, hq⟩
  have HX := Lib.hid (show decide (0 ≤ r) = b by rw [HB.out]; simp [hr])
  clear hr
  go_wp2
  go_ret
  exact ⟨ret_bool HX.out, hq⟩


end Go.Proofs.Yteaijhmgfddjiaa
