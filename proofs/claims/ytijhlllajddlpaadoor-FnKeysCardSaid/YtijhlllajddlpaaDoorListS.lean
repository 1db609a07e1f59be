/- The reference's text of a list of numbers. Contract of l01List. -/
import Derived.Test.YtijhlllajddlpaaDoorDecS
import Derived.Test.YtijhlllajddlpaaDoorListL
set_option linter.unusedSimpArgs false
set_option linter.unnecessarySimpa false
set_option linter.unusedVariables false
set_option maxRecDepth 100000
namespace Go.Proofs.YtijhlllajddlpaaDoor
open Go.RowKit

theorem l01DecB_any (n : Int) (w : World) (hn : I64 n) :
    Calls Tryd.prog 65 #[.int .i64 n] w fun e w' => e = .returned (.string (decB n)) ∧ Below w.heap.size w w' := l01Dec_any n w hn

set_option maxHeartbeats 2000000 in
theorem l01List_any (v : Value) (xs : List Int) (w : World) (h : Ints w v xs) (hl : xs.length ≤ 1048576) (ok : ∀ x ∈ xs, I64 x) :
    Calls Tryd.prog 47 #[v] w fun e w' => e = .returned (.string (listU xs)) ∧ Below w.heap.size w w' := by
  obtain ⟨a, ca, rfl, _, _, _⟩ := id h
  by_cases h0 : xs.length = 0
  · have hx : xs = [] := List.eq_nil_of_length_eq_zero h0
    subst hx
    have E := Lib.hid (show listU [] = bytesB [45] from if_pos rfl)
    go_enter Tryd.func47, Tryd.ntmps47
    go_wp2
    go_ret
    exact ⟨by rw [E.out]; rfl, Below.refl _ _⟩
  have d0 : ((xs.length : Int) == 0) = false := by simp; intro e; exact h0 (by rw [e]; rfl)
  have E := Lib.hid (show listU xs = bytesB (commaT xs) from if_neg (fun e => h0 (by rw [e]; rfl)))
  have OK := Lib.hid ok
  clear h0 ok
  go_enter Tryd.func47, Tryd.ntmps47
  go_wp2_with fail
  go_loopw [3, 4] (fun o i wr => ∃ k : Nat, k ≤ xs.length ∧ i = .int .i64 (k : Int) ∧ o = .string (bytesB (commaT (xs.take k))) ∧ Below w.heap.size w wr) (fun _ i _ => xs.length - (intOf i).toNat)
  case atStart => exact ⟨0, Nat.zero_le _, by go_num, rfl, Below.refl _ _⟩
  case round =>
    obtain ⟨k, hk, rfl, rfl, hb⟩ := hrel
    have hz := hb.size
    have HB := Lib.hid hb
    have hr := Ints.mono h hb
    clear hb
    by_cases hlt : k < xs.length
    · obtain ⟨b1, o1, rfl, x1⟩ := hr.cells (by simp <;> omega)
      have d1 : wr.cell? ⟨b1, o1 + k, none⟩ = some (.int .i64 xs[k]) := x1 k _ (by simp [hlt])
      have HI := Lib.hid (OK.out _ (List.getElem_mem hlt))
      have hlen := commaT_len (xs.take k) (fun x hx => OK.out x (List.mem_of_mem_take hx))
      rw [List.length_take, Nat.min_eq_left hk] at hlen
      clear x1 hr
      obtain ⟨o, ho⟩ : ∃ o, o = bytesB (commaT (xs.take k)) := ⟨_, rfl⟩
      rw [← ho]
      have hos : o.size ≤ 30000000 := by rw [ho, bytesB_size]; omega
      have HO := Lib.hid ho
      have hds : (decB xs[k]).size ≤ 21 := by unfold decB; rw [bytesB_size]; exact itoa_len HI.out
      clear ho hlen
      by_cases hk0 : k = 0
      · have dk : decide (0 < (k : Int)) = false := by simp; omega
        have dk' : decide (0 < k) = false := by simp; omega
        have HN := Lib.hid (show o ++ decB xs[k] = bytesB (commaT (xs.take (k + 1))) by
          subst hk0
          rw [HO.out, List.take_succ_eq_append_getElem hlt]
          simp only [List.take_zero, List.nil_append, commaT_nil, commaT_one]
          unfold decB
          rw [bytesB_app]; simp)
        clear hk0
        go_wp2_with fail
        refine (l01DecB_any _ _ HI.out).mono ?_
        rintro e w1 ⟨rfl, hb1⟩
        have HB1 := Lib.hid (HB.out.trans (hb1.mono hz))
        clear hb1
        go_wp2
        go_roundw
        case rel => exact ⟨k + 1, by omega, by go_num, by rw [HN.out], HB1.out⟩
        case measure => simp [intOf] <;> omega
      · have dk : decide (0 < (k : Int)) = true := by simp; omega
        have dk' : decide (0 < k) = true := by simp; omega
        have HN := Lib.hid (show o ++ (⟨#[44]⟩ : ByteArray) ++ decB xs[k] = bytesB (commaT (xs.take (k + 1))) by
          rw [HO.out, List.take_succ_eq_append_getElem hlt, commaT_snoc (by intro e; have := congrArg List.length e; rw [List.length_take] at this; simp only [List.length_nil] at this; omega)]
          unfold decB
          rw [show (⟨#[44]⟩ : ByteArray) = bytesB [44] from rfl, bytesB_app, bytesB_app])
        clear hk0
        go_wp2_with fail
        refine (l01DecB_any _ _ HI.out).mono ?_
        rintro e w1 ⟨rfl, hb1⟩
        have HB1 := Lib.hid (HB.out.trans (hb1.mono hz))
        clear hb1
        go_wp2
        go_roundw
        case rel => exact ⟨k + 1, by omega, by go_num, by rw [HN.out], HB1.out⟩
        case measure => simp [intOf] <;> omega
    · obtain rfl : k = xs.length := by omega
      rw [List.take_length, ← E.out]
      go_wp2
      go_ret
      exact ⟨rfl, HB.out⟩

end Go.Proofs.YtijhlllajddlpaaDoor
