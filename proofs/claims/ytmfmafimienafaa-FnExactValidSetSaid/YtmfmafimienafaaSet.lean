/- Contracts of within, isNote, l00In, l00Rises, l26Set and both ValidSet. -/
import Derived.Test.YtmfmafimienafaaInts
set_option linter.unusedSimpArgs false
set_option linter.unusedVariables false
namespace Go.Proofs.Ytmfmafimienafaa
open Go.RowKit

theorem within_any (b : Bool) (n lo hi : Int) (w : World) (h : b = decide (lo ≤ n ∧ n ≤ hi)) :
    Calls Try.prog 37 #[.int .i64 n, .int .i64 lo, .int .i64 hi] w fun e w' => e = .returned (.bool b) ∧ w' = w := by
  subst h
  by_cases h1 : lo ≤ n <;> by_cases h2 : n ≤ hi
  all_goals
    have e1 : decide (n ≤ hi) = decide (n ≤ hi) := rfl
    first | have d1 : decide (lo ≤ n) = true := by simpa using h1
          | have d1 : decide (lo ≤ n) = false := by simpa using h1
    first | have d2 : decide (n ≤ hi) = true := by simpa using h2
          | have d2 : decide (n ≤ hi) = false := by simpa using h2
    clear e1
    go_enter Try.func37, Try.ntmps37
    go_wp2
    go_ret
    exact ⟨by simp [d1, d2, h1, h2], rfl⟩

theorem isNote_any (b : Bool) (n : Int) (w : World) (h : b = decide (0 ≤ n ∧ n ≤ 127)) :
    Calls Try.prog 34 #[.int .i64 n] w fun e w' => e = .returned (.bool b) ∧ w' = w := by
  have H := Lib.hid h; clear h
  go_enter Try.func34, Try.ntmps34
  go_wp2_with (go_at_call 37; refine (within_any b _ _ _ _ H.out).mono ?_; rintro e w' ⟨rfl, rfl⟩)
  go_ret
  exact ⟨rfl, rfl⟩
theorem l00In_any (b : Bool) (n lo hi : Int) (w : World) (h : b = decide (lo ≤ n ∧ n ≤ hi)) :
    Calls Try.prog 58 #[.int .i64 n, .int .i64 lo, .int .i64 hi] w fun e w' => e = .returned (.bool b) ∧ w' = w := by
  subst h
  by_cases h1 : lo ≤ n <;> by_cases h2 : n ≤ hi
  all_goals
    first | have d1 : decide (lo ≤ n) = true := by simpa using h1
          | have d1 : decide (lo ≤ n) = false := by simpa using h1
    first | have d2 : decide (n ≤ hi) = true := by simpa using h2
          | have d2 : decide (n ≤ hi) = false := by simpa using h2
    go_enter Try.func58, Try.ntmps58
    go_wp2
    go_ret
    exact ⟨by simp [d1, d2, h1, h2], rfl⟩

/-- The number at k is within bounds and above the one before it. -/
def RiseAt (lo hi : Int) (xs : List Int) (k : Nat) : Prop := lo ≤ xs.getD k 0 ∧ xs.getD k 0 ≤ hi ∧ (k = 0 ∨ xs.getD (k - 1) 0 < xs.getD k 0)
def Rises (lo hi : Int) (xs : List Int) : Prop := ∀ k, k < xs.length → RiseAt lo hi xs k
instance (lo hi : Int) (xs : List Int) (k : Nat) : Decidable (RiseAt lo hi xs k) := by unfold RiseAt; infer_instance
instance (lo hi : Int) (xs : List Int) : Decidable (Rises lo hi xs) := by unfold Rises; infer_instance

theorem rises_step {lo hi : Int} {xs : List Int} {k : Nat} (h : ∀ i, i < k → RiseAt lo hi xs i) (hk : RiseAt lo hi xs k) : ∀ i, i < k + 1 → RiseAt lo hi xs i := fun i hi => by
  by_cases e : i = k
  · rw [e]; exact hk
  · exact h i (by omega)

set_option maxHeartbeats 400000 in
theorem l00Rises_any (v : Value) (lo hi : Int) (xs : List Int) (w : World) (h1 : Ints w v xs) :
    Calls Try.prog 55 #[v, .int .i64 lo, .int .i64 hi] w fun e w' => e = .returned (.bool (decide (Rises lo hi xs))) ∧ Q w w' := by
  obtain ⟨a, ca, rfl, hca, hcm, _⟩ := id h1
  have hm : xs.length ≤ maxLen := by omega
  clear hca hcm
  unfold maxLen at hm
  go_enter Try.func55, Try.ntmps55
  go_wp2
  go_loopw [7] (fun i wr => ∃ k : Nat, k ≤ xs.length ∧ i = .int .i64 k ∧ (∀ i, i < k → RiseAt lo hi xs i) ∧ Q w wr) (fun i _ => xs.length - (intOf i).toNat)
  case atStart => exact ⟨0, Nat.zero_le _, rfl, by intro i h; omega, Q.refl _⟩
  case round =>
    obtain ⟨k, hk, rfl, ht, hq⟩ := hrel
    have HT := Lib.hid ht; clear ht
    by_cases hlt : k < xs.length
    · obtain ⟨b1, o1, rfl, c1⟩ := (h1.q hq).cells (by simp; omega)
      have d1 : wr.cell? ⟨b1, o1 + k, none⟩ = some (.int .i64 xs[k]) := c1 k _ (by simp [hlt])
      have g1 : xs.getD k 0 = xs[k] := by simp [hlt]
      by_cases hin : lo ≤ xs[k] ∧ xs[k] ≤ hi
      · have hin' : true = decide (lo ≤ xs[k] ∧ xs[k] ≤ hi) := by simpa using hin
        have HI := Lib.hid hin'
        have HN := Lib.hid hin
        clear hin' hin
        by_cases h0 : 0 < k
        · have d0 : wr.cell? ⟨b1, o1 + (k - 1), none⟩ = some (.int .i64 xs[k - 1]) := c1 (k - 1) _ (by simp)
          have g0 : xs.getD (k - 1) 0 = xs[k - 1] := by simp [show k - 1 < xs.length by omega]
          have G0 := Lib.hid g0
          have G1 := Lib.hid g1
          clear c1 g0 g1
          have h0' : decide (0 < (k : Int)) = true := by simpa using h0
          have z1 : ((k : Int) - 1).toNat = k - 1 := by omega
          by_cases hr : xs[k - 1] < xs[k]
          · have hr' : decide (xs[k] ≤ xs[k - 1]) = false := by simpa using hr
            go_wp2
            go_quiet ((go_at_call 58; exact Calls.quiet_of_same (l00In_any true _ _ _ _ HI.out)))
            go_wp2
            go_roundw
            case rel => exact ⟨k + 1, by omega, by go_num, rises_step HT.out ⟨by rw [G1.out]; exact HN.out.1, by rw [G1.out]; exact HN.out.2, .inr (by rw [G0.out, G1.out]; exact hr)⟩, hq.drewN _⟩
            case measure => simp [intOf]; omega
          · have hr' : decide (xs[k] ≤ xs[k - 1]) = true := by simpa using hr
            have hno : ¬ Rises lo hi xs := fun h => by have := (h k hlt).2.2; rw [G0.out, G1.out] at this; omega
            have HX := Lib.hid hno; clear hno
            go_wp2
            go_quiet ((go_at_call 58; exact Calls.quiet_of_same (l00In_any true _ _ _ _ HI.out)))
            go_wp2
            go_ret
            exact ⟨ret_bool (by simpa using HX.out), hq.drewN _⟩
        · have h0' : decide (0 < (k : Int)) = false := by simpa using h0
          have G1 := Lib.hid g1
          clear c1 g1
          go_wp2
          go_quiet ((go_at_call 58; exact Calls.quiet_of_same (l00In_any true _ _ _ _ HI.out)))
          go_wp2
          go_roundw
          case rel => exact ⟨k + 1, by omega, by go_num, rises_step HT.out ⟨by rw [G1.out]; exact HN.out.1, by rw [G1.out]; exact HN.out.2, .inl (by omega)⟩, hq.drewN _⟩
          case measure => simp [intOf]; omega
      · have hin' : false = decide (lo ≤ xs[k] ∧ xs[k] ≤ hi) := by simpa using hin
        have HI := Lib.hid hin'
        have hno : ¬ Rises lo hi xs := fun h => by have := h k hlt; unfold RiseAt at this; rw [g1] at this; exact hin ⟨this.1, this.2.1⟩
        have HX := Lib.hid hno
        clear hin' hin hno c1 g1
        go_wp2
        go_quiet ((go_at_call 58; exact Calls.quiet_of_same (l00In_any false _ _ _ _ HI.out)))
        go_wp2
        go_ret
        exact ⟨ret_bool (by simpa using HX.out), hq.drewN _⟩
    · have hall : Rises lo hi xs := fun i hi => HT.out i (by omega)
      have HX := Lib.hid hall; clear hall
      go_wp2
      go_ret
      exact ⟨ret_bool (by simpa using HX.out), hq⟩

/-- What ValidSet says. -/
def validSet (xs : List Int) : Bool := decide (xs.length ≤ 24) && decide (Rises 0 127 xs)

set_option maxHeartbeats 400000 in
theorem l26Set_any (v : Value) (xs : List Int) (w : World) (h1 : Ints w v xs) :
    Calls Try.prog 33 #[v] w fun e w' => e = .returned (.bool (validSet xs)) ∧ Q w w' := by
  obtain ⟨a, ca, rfl, _, _, _⟩ := id h1
  by_cases hl : xs.length ≤ 24
  · have hl' : decide ((xs.length : Int) ≤ 24) = true := by simp; omega
    have e : validSet xs = decide (Rises 0 127 xs) := by simp [validSet, hl]
    have E := Lib.hid e; clear e hl
    go_enter Try.func33, Try.ntmps33
    go_wp2_with (go_at_call 55; refine (l00Rises_any _ 0 127 xs _ h1).mono ?_; rintro e w' ⟨rfl, hq⟩)
    go_ret
    exact ⟨ret_bool E.out.symm, hq⟩
  · have hl' : decide ((xs.length : Int) ≤ 24) = false := by simp; omega
    have e : validSet xs = false := by simp [validSet]; omega
    have E := Lib.hid e; clear e hl
    go_enter Try.func33, Try.ntmps33
    go_wp2
    go_ret
    exact ⟨ret_bool E.out.symm, Q.refl _⟩

theorem specValidSet_any (v : Value) (xs : List Int) (w : World) (h1 : Ints w v xs) :
    Calls Try.prog 10 #[v] w fun e w' => e = .returned (.bool (validSet xs)) ∧ Q w w' := by
  go_enter Try.func10, Try.ntmps10
  go_wp2_with (go_at_call 33; refine (l26Set_any _ xs _ h1).mono ?_; rintro e w' ⟨rfl, hq⟩)
  go_ret
  exact ⟨rfl, hq⟩

set_option maxHeartbeats 400000 in
theorem implValidSet_any (v : Value) (xs : List Int) (w : World) (h1 : Ints w v xs) :
    Calls Try.prog 12 #[v] w fun e w' => e = .returned (.bool (validSet xs)) ∧ Q w w' := by
  obtain ⟨a, ca, rfl, hca, hcm, _⟩ := id h1
  have hm : xs.length ≤ maxLen := by omega
  clear hca hcm
  unfold maxLen at hm
  go_enter Try.func12, Try.ntmps12
  go_wp2
  go_loopw [7] (fun i wr => ∃ k : Nat, k ≤ xs.length ∧ i = .int .i64 k ∧ (∀ i, i < k → RiseAt 0 127 xs i) ∧ Q w wr) (fun i _ => xs.length - (intOf i).toNat)
  case atStart => exact ⟨0, Nat.zero_le _, rfl, by intro i h; omega, Q.refl _⟩
  case round =>
    obtain ⟨k, hk, rfl, ht, hq⟩ := hrel
    have HT := Lib.hid ht; clear ht
    by_cases hlt : k < xs.length
    · obtain ⟨b1, o1, rfl, c1⟩ := (h1.q hq).cells (by simp; omega)
      have d1 : wr.cell? ⟨b1, o1 + k, none⟩ = some (.int .i64 xs[k]) := c1 k _ (by simp [hlt])
      have g1 : xs.getD k 0 = xs[k] := by simp [hlt]
      by_cases hin : 0 ≤ xs[k] ∧ xs[k] ≤ 127
      · have hin' : true = decide (0 ≤ xs[k] ∧ xs[k] ≤ 127) := by simpa using hin
        have HI := Lib.hid hin'
        have HN := Lib.hid hin
        clear hin' hin
        by_cases h0 : 0 < k
        · have d0 : wr.cell? ⟨b1, o1 + (k - 1), none⟩ = some (.int .i64 xs[k - 1]) := c1 (k - 1) _ (by simp)
          have g0 : xs.getD (k - 1) 0 = xs[k - 1] := by simp [show k - 1 < xs.length by omega]
          have G0 := Lib.hid g0
          have G1 := Lib.hid g1
          clear c1 g0 g1
          have h0' : decide (0 < (k : Int)) = true := by simpa using h0
          have z1 : ((k : Int) - 1).toNat = k - 1 := by omega
          by_cases hr : xs[k - 1] < xs[k]
          · have hr' : decide (xs[k] ≤ xs[k - 1]) = false := by simpa using hr
            go_wp2_with (go_at_call 34; refine (isNote_any true _ _ HI.out).mono ?_; rintro e w' ⟨rfl, rfl⟩)
            go_roundw
            case rel => exact ⟨k + 1, by omega, by go_num, rises_step HT.out ⟨by rw [G1.out]; exact HN.out.1, by rw [G1.out]; exact HN.out.2, .inr (by rw [G0.out, G1.out]; exact hr)⟩, hq⟩
            case measure => simp [intOf]; omega
          · have hr' : decide (xs[k] ≤ xs[k - 1]) = true := by simpa using hr
            have hno : validSet xs = false := by
              have : ¬ Rises 0 127 xs := fun h => by have := (h k hlt).2.2; rw [G0.out, G1.out] at this; omega
              simp [validSet, this]
            have HX := Lib.hid hno; clear hno
            go_wp2_with (go_at_call 34; refine (isNote_any true _ _ HI.out).mono ?_; rintro e w' ⟨rfl, rfl⟩)
            go_ret
            exact ⟨ret_bool HX.out.symm, hq⟩
        · have h0' : decide (0 < (k : Int)) = false := by simpa using h0
          have G1 := Lib.hid g1
          clear c1 g1
          go_wp2_with (go_at_call 34; refine (isNote_any true _ _ HI.out).mono ?_; rintro e w' ⟨rfl, rfl⟩)
          go_roundw
          case rel => exact ⟨k + 1, by omega, by go_num, rises_step HT.out ⟨by rw [G1.out]; exact HN.out.1, by rw [G1.out]; exact HN.out.2, .inl (by omega)⟩, hq⟩
          case measure => simp [intOf]; omega
      · have hin' : false = decide (0 ≤ xs[k] ∧ xs[k] ≤ 127) := by simpa using hin
        have HI := Lib.hid hin'
        have hno : validSet xs = false := by
          have : ¬ Rises 0 127 xs := fun h => by have := h k hlt; unfold RiseAt at this; rw [g1] at this; exact hin ⟨this.1, this.2.1⟩
          simp [validSet, this]
        have HX := Lib.hid hno
        clear hin' hin hno c1 g1
        go_wp2_with (go_at_call 34; refine (isNote_any false _ _ HI.out).mono ?_; rintro e w' ⟨rfl, rfl⟩)
        go_ret
        exact ⟨ret_bool HX.out.symm, hq⟩
    · have hall : Rises 0 127 xs := fun i hi => HT.out i (by omega)
      have e : decide ((xs.length : Int) ≤ 24) = validSet xs := by simp [validSet, hall]; omega
      have HX := Lib.hid e; clear e hall
      go_wp2
      go_ret
      exact ⟨ret_bool HX.out, hq⟩

end Go.Proofs.Ytmfmafimienafaa
