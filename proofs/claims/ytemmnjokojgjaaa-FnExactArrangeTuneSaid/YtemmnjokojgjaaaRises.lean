/- Contract of l00Rises. -/
import Derived.Test.YtemmnjokojgjaaaWithin
import Derived.Deep.QuietTactic
import Derived.BigQuiet
set_option linter.unusedSimpArgs false
set_option linter.unnecessarySimpa false
set_option linter.unusedVariables false
namespace Go.Proofs.Ytemmnjokojgjaaa
open Go.RowKit

/-- The number at k is within bounds and above the one before it. -/
def RiseAt (lo hi : Int) (xs : List Int) (k : Nat) : Prop := lo ≤ xs.getD k 0 ∧ xs.getD k 0 ≤ hi ∧ (k = 0 ∨ xs.getD (k - 1) 0 < xs.getD k 0)
def Rises (lo hi : Int) (xs : List Int) : Prop := ∀ k, k < xs.length → RiseAt lo hi xs k
instance (lo hi : Int) (xs : List Int) (k : Nat) : Decidable (RiseAt lo hi xs k) := by unfold RiseAt; infer_instance
instance (lo hi : Int) (xs : List Int) : Decidable (Rises lo hi xs) := by unfold Rises; infer_instance

theorem rises_step {lo hi : Int} {xs : List Int} {k : Nat} (h : ∀ i, i < k → RiseAt lo hi xs i) (hk : RiseAt lo hi xs k) : ∀ i, i < k + 1 → RiseAt lo hi xs i := fun i hi => by
  by_cases e : i = k
  · rw [e]; exact hk
  · exact h i (by omega)

set_option maxHeartbeats 400000 in
theorem l00Rises_any (v : Value) (lo hi : Int) (xs : List Int) (w : World) (h1 : Ints w v xs) :
    Calls Try.prog 93 #[v, .int .i64 lo, .int .i64 hi] w fun e w' => e = .returned (.bool (decide (Rises lo hi xs))) ∧ Q w w' := by
  obtain ⟨a, ca, rfl, hca, hcm, _⟩ := id h1
  have hm : xs.length ≤ maxLen := by omega
  clear hca hcm
  unfold maxLen at hm
  go_enter Try.func93, Try.ntmps93
  go_wp2
  go_loopw [7] (fun i wr => ∃ k : Nat, k ≤ xs.length ∧ i = .int .i64 k ∧ (∀ i, i < k → RiseAt lo hi xs i) ∧ Q w wr) (fun i _ => xs.length - (intOf i).toNat)
  case atStart => exact ⟨0, Nat.zero_le _, rfl, by intro i h; omega, Q.refl _⟩
  case round =>
    obtain ⟨k, hk, rfl, ht, hq⟩ := hrel
    have HT := Lib.hid ht; clear ht
    by_cases hlt : k < xs.length
    · obtain ⟨b1, o1, rfl, c1⟩ := (h1.q hq).cells (by simp; omega)
      have d1 : wr.cell? ⟨b1, o1 + k, none⟩ = some (.int .i64 xs[k]) := c1 k _ (by simp [hlt])
      have g1 : xs.getD k 0 = xs[k] := by simp [hlt]
      by_cases hin : lo ≤ xs[k] ∧ xs[k] ≤ hi
      · have hin' : true = decide (lo ≤ xs[k] ∧ xs[k] ≤ hi) := by simpa using hin
        have HI := Lib.hid hin'
        have HN := Lib.hid hin
        clear hin' hin
        by_cases h0 : 0 < k
        · have d0 : wr.cell? ⟨b1, o1 + (k - 1), none⟩ = some (.int .i64 xs[k - 1]) := c1 (k - 1) _ (by simp)
          have g0 : xs.getD (k - 1) 0 = xs[k - 1] := by simp [show k - 1 < xs.length by omega]
          have G0 := Lib.hid g0
          have G1 := Lib.hid g1
          clear c1 g0 g1
          have h0' : decide (0 < (k : Int)) = true := by simpa using h0
          have z1 : ((k : Int) - 1).toNat = k - 1 := by omega
          by_cases hr : xs[k - 1] < xs[k]
          · have hr' : decide (xs[k] ≤ xs[k - 1]) = false := by simpa using hr
            go_wp2
            go_quiet ((go_at_call 99; exact Calls.quiet_of_same (l00In_any true _ _ _ _ HI.out)))
            go_wp2
            go_roundw
            case rel => exact ⟨k + 1, by omega, by go_num, rises_step HT.out ⟨by rw [G1.out]; exact HN.out.1, by rw [G1.out]; exact HN.out.2, .inr (by rw [G0.out, G1.out]; exact hr)⟩, hq.drewN _⟩
            case measure => simp [intOf]; omega
          · have hr' : decide (xs[k] ≤ xs[k - 1]) = true := by simpa using hr
            have hno : ¬ Rises lo hi xs := fun h => by have := (h k hlt).2.2; rw [G0.out, G1.out] at this; omega
            have HX := Lib.hid hno; clear hno
            go_wp2
            go_quiet ((go_at_call 99; exact Calls.quiet_of_same (l00In_any true _ _ _ _ HI.out)))
            go_wp2
            go_ret
            exact ⟨ret_bool (by simpa using HX.out), hq.drewN _⟩
        · have h0' : decide (0 < (k : Int)) = false := by simpa using h0
          have G1 := Lib.hid g1
          clear c1 g1
          go_wp2
          go_quiet ((go_at_call 99; exact Calls.quiet_of_same (l00In_any true _ _ _ _ HI.out)))
          go_wp2
          go_roundw
          case rel => exact ⟨k + 1, by omega, by go_num, rises_step HT.out ⟨by rw [G1.out]; exact HN.out.1, by rw [G1.out]; exact HN.out.2, .inl (by omega)⟩, hq.drewN _⟩
          case measure => simp [intOf]; omega
      · have hin' : false = decide (lo ≤ xs[k] ∧ xs[k] ≤ hi) := by simpa using hin
        have HI := Lib.hid hin'
        have hno : ¬ Rises lo hi xs := fun h => by have := h k hlt; unfold RiseAt at this; rw [g1] at this; exact hin ⟨this.1, this.2.1⟩
        have HX := Lib.hid hno
        clear hin' hin hno c1 g1
        go_wp2
        go_quiet ((go_at_call 99; exact Calls.quiet_of_same (l00In_any false _ _ _ _ HI.out)))
        go_wp2
        go_ret
        exact ⟨ret_bool (by simpa using HX.out), hq.drewN _⟩
    · have hall : Rises lo hi xs := fun i hi => HT.out i (by omega)
      have HX := Lib.hid hall; clear hall
      go_wp2
      go_ret
      exact ⟨ret_bool (by simpa using HX.out), hq⟩

end Go.Proofs.Ytemmnjokojgjaaa
