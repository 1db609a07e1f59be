/- Both packages look for a note by its name. Contracts of NoteNamed. -/
import Derived.Test.YtgdfecnpkjnhnaaDoorTunRL
import Derived.Test.YtgdfecnpkjnhnaaDoorTunI
import Derived.Test.YtgdfecnpkjnhnaaDoorStrEq
set_option linter.unusedSimpArgs false
set_option linter.unnecessarySimpa false
set_option linter.unusedVariables false
set_option maxRecDepth 100000
namespace Go.Proofs.YtgdfecnpkjnhnaaDoor
open Go.RowKit

theorem nn_hit {k : Nat} {p : List UInt8} (hk : k ≤ 127) (h : noteL k = p) : decide (nnB p) = true ∧ nnV p = k := by
  subst h
  exact ⟨decide_eq_true (nn_yes hk).1, (nn_yes hk).2⟩
theorem nn_miss {p : List UInt8} (h : ∀ j : Nat, j < 128 → noteL j ≠ p) : decide (nnB p) = false ∧ nnV p = 0 := by
  have hn : ¬ nnB p := fun ⟨n, hn, e⟩ => h n (by omega) e
  exact ⟨decide_eq_false hn, nn_no hn⟩
theorem note_eq {k : Nat} {p : List UInt8} : ((noteT k).toList == (bytesB p).toList) = decide (noteL k = p) := by
  rw [strEq]
  by_cases h : noteL k = p
  · subst h; simp [noteT]
  · rw [decide_eq_false h]
    refine decide_eq_false fun e => h ?_
    unfold noteT at e
    exact bytesB_inj e

set_option maxHeartbeats 1000000 in
theorem specNoteNamed_any (p : List UInt8) (w : World) :
    Calls Tryd.prog 102 #[.string (bytesB p)] w fun e w' => e = .returned (.tuple #[.int .i64 (nnV p), .bool (decide (nnB p))]) ∧ Below w.heap.size w w' := by
  obtain ⟨s, hs⟩ : ∃ s, s = bytesB p := ⟨_, rfl⟩
  have HS := Lib.hid hs
  rw [← hs]
  clear hs
  go_enter Tryd.func102, Tryd.ntmps102
  go_wp2_with fail
  go_loopw [4] (fun i wr => ∃ k : Nat, k ≤ 128 ∧ i = .int .i64 (k : Int) ∧ (∀ j : Nat, j < k → noteL j ≠ p) ∧ Below w.heap.size w wr) (fun i _ => 128 - (intOf i).toNat)
  case atStart => exact ⟨0, by omega, by go_num, fun j hj => by omega, Below.refl _ _⟩
  case round =>
    obtain ⟨k, hk, rfl, hm, hb⟩ := hrel
    have HM := Lib.hid hm; have HB := Lib.hid hb
    have hz := hb.size
    clear hm hb
    by_cases hlt : k < 128
    · have d1 : decide ((k : Int) ≤ 127) = true := by simp; omega
      have d2 : decide (k ≤ 127) = true := by simp; omega
      have d3 : decide (k < 128) = true := by simp; omega
      have hn : noteOk (k : Int) := by unfold noteOk; omega
      have HNO := Lib.hid hn
      clear hn
      by_cases he : noteL k = p
      · have HR := Lib.hid (nn_hit (by omega) he)
        have HE := Lib.hid (show ((noteT k).toList == s.toList) = true by rw [HS.out, note_eq]; exact decide_eq_true he)
        clear he
        go_wp2_with fail
        refine (l03Text_any (k : Int) _ HNO.out).mono ?_
        rw [Int.toNat_natCast]
        rintro e w1 ⟨rfl, hb1⟩
        have HB1 := Lib.hid (HB.out.trans (hb1.mono hz))
        have he := HE.out
        clear hb1
        go_wp2
        go_ret2
        exact ⟨by rw [HR.out.1, HR.out.2]; rfl, HB1.out⟩
      · have HE := Lib.hid (show ((noteT k).toList == s.toList) = false by rw [HS.out, note_eq]; exact decide_eq_false he)
        have HM1 := Lib.hid (show ∀ j : Nat, j < k + 1 → noteL j ≠ p from fun j hj => by
          by_cases e : j = k
          · subst e; exact he
          · exact HM.out j (by omega))
        clear he
        go_wp2_with fail
        refine (l03Text_any (k : Int) _ HNO.out).mono ?_
        rw [Int.toNat_natCast]
        rintro e w1 ⟨rfl, hb1⟩
        have HB1 := Lib.hid (HB.out.trans (hb1.mono hz))
        have he := HE.out
        clear hb1
        go_wp2
        go_roundw
        case rel => exact ⟨k + 1, by omega, by go_num, HM1.out, HB1.out⟩
        case measure => simp [intOf] <;> omega
    · obtain rfl : k = 128 := by omega
      have HR := Lib.hid (nn_miss HM.out)
      go_wp2
      go_ret2
      exact ⟨by rw [HR.out.1, HR.out.2]; rfl, HB.out⟩

set_option maxHeartbeats 1000000 in
theorem implNoteNamed_any (p : List UInt8) (w : World) (ht : Tab w) :
    Calls Tryd.prog 54 #[.string (bytesB p)] w fun e w' => e = .returned (.tuple #[.int .i64 (nnV p), .bool (decide (nnB p))]) ∧ Below w.heap.size w w' := by
  obtain ⟨s, hs⟩ : ∃ s, s = bytesB p := ⟨_, rfl⟩
  have HS := Lib.hid hs
  have HT := Lib.hid ht
  rw [← hs]
  clear hs ht
  go_enter Tryd.func54, Tryd.ntmps54
  go_wp2_with fail
  go_loopw [4, 5] (fun _ i wr => ∃ k : Nat, k ≤ 128 ∧ i = .int .i64 (k : Int) ∧ (∀ j : Nat, j < k → noteL j ≠ p) ∧ Below w.heap.size w wr) (fun _ i _ => 128 - (intOf i).toNat)
  case atStart => exact ⟨0, by omega, by go_num, fun j hj => by omega, Below.refl _ _⟩
  case round =>
    obtain ⟨k, hk, rfl, hm, hb⟩ := hrel
    have HM := Lib.hid hm; have HB := Lib.hid hb
    have hz := hb.size
    clear hm hb
    by_cases hlt : k < 128
    · have d1 : decide ((k : Int) < 128) = true := by simp; omega
      have d3 : decide (k < 128) = true := by simp; omega
      have hn : noteOk (k : Int) := by unfold noteOk; omega
      have HNO := Lib.hid hn
      clear hn
      by_cases he : noteL k = p
      · have HR := Lib.hid (nn_hit (by omega) he)
        have HE := Lib.hid (show ((noteT k).toList == s.toList) = true by rw [HS.out, note_eq]; exact decide_eq_true he)
        clear he
        go_wp2_with fail
        refine (NoteName_any (k : Int) _ HNO.out (HT.out.mono HB.out)).mono ?_
        rw [Int.toNat_natCast]
        rintro e w1 ⟨rfl, hb1⟩
        have HB1 := Lib.hid (HB.out.trans (hb1.mono hz))
        have he := HE.out
        clear hb1
        go_wp2
        go_ret2
        exact ⟨by rw [HR.out.1, HR.out.2]; rfl, HB1.out⟩
      · have HE := Lib.hid (show ((noteT k).toList == s.toList) = false by rw [HS.out, note_eq]; exact decide_eq_false he)
        have HM1 := Lib.hid (show ∀ j : Nat, j < k + 1 → noteL j ≠ p from fun j hj => by
          by_cases e : j = k
          · subst e; exact he
          · exact HM.out j (by omega))
        clear he
        go_wp2_with fail
        refine (NoteName_any (k : Int) _ HNO.out (HT.out.mono HB.out)).mono ?_
        rw [Int.toNat_natCast]
        rintro e w1 ⟨rfl, hb1⟩
        have HB1 := Lib.hid (HB.out.trans (hb1.mono hz))
        have he := HE.out
        clear hb1
        go_wp2
        go_roundw
        case rel => exact ⟨k + 1, by omega, by go_num, HM1.out, HB1.out⟩
        case measure => simp [intOf] <;> omega
    · obtain rfl : k = 128 := by omega
      have HR := Lib.hid (nn_miss HM.out)
      go_wp2
      go_ret2
      exact ⟨by rw [HR.out.1, HR.out.2]; rfl, HB.out⟩

end Go.Proofs.YtgdfecnpkjnhnaaDoor
