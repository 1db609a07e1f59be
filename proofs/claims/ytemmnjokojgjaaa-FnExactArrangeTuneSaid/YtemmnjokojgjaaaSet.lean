/- Contracts of isNote, l26Set and both ValidSet. -/
import Derived.Test.YtemmnjokojgjaaaRises
import Derived.Deep.QuietTactic
import Derived.BigQuiet
set_option linter.unusedSimpArgs false
set_option linter.unnecessarySimpa false
set_option linter.unusedVariables false
namespace Go.Proofs.Ytemmnjokojgjaaa
open Go.RowKit

theorem isNoteS_any (b : Bool) (n : Int) (w : World) (h : b = decide (0 ≤ n ∧ n ≤ 127)) :
    Calls Try.prog 90 #[.int .i64 n] w fun e w' => e = .returned (.bool b) ∧ w' = w := by
  have H := Lib.hid h; clear h
  go_enter Try.func90, Try.ntmps90
  go_wp2_with (go_at_call 62; refine (within_any b _ _ _ _ H.out).mono ?_; rintro e w' ⟨rfl, rfl⟩)
  go_ret
  exact ⟨rfl, rfl⟩
/-- What ValidSet says. -/
def validSet (xs : List Int) : Bool := decide (xs.length ≤ 24) && decide (Rises 0 127 xs)

set_option maxHeartbeats 400000 in
theorem l26Set_any (v : Value) (xs : List Int) (w : World) (h1 : Ints w v xs) :
    Calls Try.prog 65 #[v] w fun e w' => e = .returned (.bool (validSet xs)) ∧ Q w w' := by
  obtain ⟨a, ca, rfl, _, _, _⟩ := id h1
  by_cases hl : xs.length ≤ 24
  · have hl' : decide ((xs.length : Int) ≤ 24) = true := by simp; omega
    have e : validSet xs = decide (Rises 0 127 xs) := by simp [validSet, hl]
    have E := Lib.hid e; clear e hl
    go_enter Try.func65, Try.ntmps65
    go_wp2_with (go_at_call 93; refine (l00Rises_any _ 0 127 xs _ h1).mono ?_; rintro e w' ⟨rfl, hq⟩)
    go_ret
    exact ⟨ret_bool E.out.symm, hq⟩
  · have hl' : decide ((xs.length : Int) ≤ 24) = false := by simp; omega
    have e : validSet xs = false := by simp [validSet]; omega
    have E := Lib.hid e; clear e hl
    go_enter Try.func65, Try.ntmps65
    go_wp2
    go_ret
    exact ⟨ret_bool E.out.symm, Q.refl _⟩

theorem specValidSet_any (v : Value) (xs : List Int) (w : World) (h1 : Ints w v xs) :
    Calls Try.prog 35 #[v] w fun e w' => e = .returned (.bool (validSet xs)) ∧ Q w w' := by
  go_enter Try.func35, Try.ntmps35
  go_wp2_with (go_at_call 65; refine (l26Set_any _ xs _ h1).mono ?_; rintro e w' ⟨rfl, hq⟩)
  go_ret
  exact ⟨rfl, hq⟩

set_option maxHeartbeats 400000 in
theorem implValidSet_any (v : Value) (xs : List Int) (w : World) (h1 : Ints w v xs) :
    Calls Try.prog 61 #[v] w fun e w' => e = .returned (.bool (validSet xs)) ∧ Q w w' := by
  obtain ⟨a, ca, rfl, hca, hcm, _⟩ := id h1
  have hm : xs.length ≤ maxLen := by omega
  clear hca hcm
  unfold maxLen at hm
  go_enter Try.func61, Try.ntmps61
  go_wp2
  go_loopw [7] (fun i wr => ∃ k : Nat, k ≤ xs.length ∧ i = .int .i64 k ∧ (∀ i, i < k → RiseAt 0 127 xs i) ∧ Q w wr) (fun i _ => xs.length - (intOf i).toNat)
  case atStart => exact ⟨0, Nat.zero_le _, rfl, by intro i h; omega, Q.refl _⟩
  case round =>
    obtain ⟨k, hk, rfl, ht, hq⟩ := hrel
    have HT := Lib.hid ht; clear ht
    by_cases hlt : k < xs.length
    · obtain ⟨b1, o1, rfl, c1⟩ := (h1.q hq).cells (by simp; omega)
      have d1 : wr.cell? ⟨b1, o1 + k, none⟩ = some (.int .i64 xs[k]) := c1 k _ (by simp [hlt])
      have g1 : xs.getD k 0 = xs[k] := by simp [hlt]
      by_cases hin : 0 ≤ xs[k] ∧ xs[k] ≤ 127
      · have hin' : true = decide (0 ≤ xs[k] ∧ xs[k] ≤ 127) := by simpa using hin
        have HI := Lib.hid hin'
        have HN := Lib.hid hin
        clear hin' hin
        by_cases h0 : 0 < k
        · have d0 : wr.cell? ⟨b1, o1 + (k - 1), none⟩ = some (.int .i64 xs[k - 1]) := c1 (k - 1) _ (by simp)
          have g0 : xs.getD (k - 1) 0 = xs[k - 1] := by simp [show k - 1 < xs.length by omega]
          have G0 := Lib.hid g0
          have G1 := Lib.hid g1
          clear c1 g0 g1
          have h0' : decide (0 < (k : Int)) = true := by simpa using h0
          have z1 : ((k : Int) - 1).toNat = k - 1 := by omega
          by_cases hr : xs[k - 1] < xs[k]
          · have hr' : decide (xs[k] ≤ xs[k - 1]) = false := by simpa using hr
            go_wp2_with (go_at_call 90; refine (isNoteS_any true _ _ HI.out).mono ?_; rintro e w' ⟨rfl, rfl⟩)
            go_roundw
            case rel => exact ⟨k + 1, by omega, by go_num, rises_step HT.out ⟨by rw [G1.out]; exact HN.out.1, by rw [G1.out]; exact HN.out.2, .inr (by rw [G0.out, G1.out]; exact hr)⟩, hq⟩
            case measure => simp [intOf]; omega
          · have hr' : decide (xs[k] ≤ xs[k - 1]) = true := by simpa using hr
            have hno : validSet xs = false := by
              have : ¬ Rises 0 127 xs := fun h => by have := (h k hlt).2.2; rw [G0.out, G1.out] at this; omega
              simp [validSet, this]
            have HX := Lib.hid hno; clear hno
            go_wp2_with (go_at_call 90; refine (isNoteS_any true _ _ HI.out).mono ?_; rintro e w' ⟨rfl, rfl⟩)
            go_ret
            exact ⟨ret_bool HX.out.symm, hq⟩
        · have h0' : decide (0 < (k : Int)) = false := by simpa using h0
          have G1 := Lib.hid g1
          clear c1 g1
          go_wp2_with (go_at_call 90; refine (isNoteS_any true _ _ HI.out).mono ?_; rintro e w' ⟨rfl, rfl⟩)
          go_roundw
          case rel => exact ⟨k + 1, by omega, by go_num, rises_step HT.out ⟨by rw [G1.out]; exact HN.out.1, by rw [G1.out]; exact HN.out.2, .inl (by omega)⟩, hq⟩
          case measure => simp [intOf]; omega
      · have hin' : false = decide (0 ≤ xs[k] ∧ xs[k] ≤ 127) := by simpa using hin
        have HI := Lib.hid hin'
        have hno : validSet xs = false := by
          have : ¬ Rises 0 127 xs := fun h => by have := h k hlt; unfold RiseAt at this; rw [g1] at this; exact hin ⟨this.1, this.2.1⟩
          simp [validSet, this]
        have HX := Lib.hid hno
        clear hin' hin hno c1 g1
        go_wp2_with (go_at_call 90; refine (isNoteS_any false _ _ HI.out).mono ?_; rintro e w' ⟨rfl, rfl⟩)
        go_ret
        exact ⟨ret_bool HX.out.symm, hq⟩
    · have hall : Rises 0 127 xs := fun i hi => HT.out i (by omega)
      have e : decide ((xs.length : Int) ≤ 24) = validSet xs := by simp [validSet, hall]; omega
      have HX := Lib.hid e; clear e hall
      go_wp2
      go_ret
      exact ⟨ret_bool HX.out, hq⟩

end Go.Proofs.Ytemmnjokojgjaaa
