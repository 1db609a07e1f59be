/- Contracts of rounds and RoundsOf of both packages. -/
import Derived.Test.YtgdfecnpkjnhnaaDoorWithin
import Derived.Test.YtgdfecnpkjnhnaaDoorKInts
set_option linter.unusedSimpArgs false
set_option linter.unnecessarySimpa false
set_option linter.unusedVariables false
namespace Go.Proofs.YtgdfecnpkjnhnaaDoor
open Go.RowKit

/-- The row 1, 2 .. n. -/
def rounds (n : Nat) : List Int := (List.range n).map fun (i : Nat) => (i : Int) + 1
theorem rounds_succ' (n : Nat) : rounds (n + 1) = rounds n ++ [(n : Int) + 1] := by simp [rounds, List.range_succ]
theorem rounds_len (n : Nat) : (rounds n).length = n := by simp [rounds]

set_option maxHeartbeats 400000 in
theorem l27Rounds_any (n : Nat) (w : World) (hn : n ≤ 1000) :
    Calls Tryd.prog 42 #[.int .i64 n] w fun e w' => ∃ v, e = .returned v ∧ w'.ownsRow w.heap.size 2 1 v n ((rounds n).map (Value.int .i64)) ∧ Below w.heap.size w w' := by
  go_enter Tryd.func42, Tryd.ntmps42
  go_wp2
  go_loopw [3, 4] (fun v i wr => ∃ k : Nat, k ≤ n ∧ i = .int .i64 ((k : Int) + 1) ∧ wr.ownsRow w.heap.size 2 1 v k ((rounds k).map (Value.int .i64)) ∧ Below w.heap.size w wr) (fun _ i _ => n + 1 - (intOf i).toNat)
  case atStart => exact ⟨0, Nat.zero_le _, by simp, ⟨by simp [rounds], .inr ⟨w.heap.size, 0, #[], rfl, Nat.le_refl _, heap_alloc_new w _, Nat.le_refl _, by simp [maxLen], by simp, by simp [rounds]⟩⟩, by (repeat (first | with_reducible exact Below.refl _ _ | with_reducible exact hbw | (with_reducible refine Below.setCell ?_ ?_ _; rotate_left; · first | exact Nat.le_refl _ | omega | (simp; done) | (simp; omega)) | (with_reducible refine Below.alloc ?_ ?_ _; rotate_left; · first | exact Nat.le_refl _ | omega | (simp; done) | (simp; omega)) | with_reducible refine below_drewN ?_ _ | with_reducible refine Below.drew ?_))⟩
  case round =>
    obtain ⟨k, hk, rfl, ho, hb⟩ := hrel
    obtain ⟨a, cap, rfl⟩ := owns_slice ho
    have hs := hb.size
    by_cases hlt : k < n
    · have hlt' : (k : Int) + 1 ≤ n := by omega
      go_wp2_with (at_builtin; refine append_one rfl _ _ 63 rfl w.heap.size 2 (.int .i64 0) 1 8 Tryd.underlying63 info_int rfl (by decide) _ k _ rfl ho [.int .i64 ((k : Int) + 1)] rfl (by simp [Value.oneCell']) rfl (by omega) (by decide) hs ?_)
      intro a' cap' w1 ho1 _ hb1
      go_wp2
      go_roundw
      case rel => exact ⟨k + 1, by omega, by go_num, by rw [rounds_succ']; simpa using ho1, hb.trans hb1⟩
      case measure => simp [intOf]; omega
    · go_wp2
      go_ret
      obtain rfl : k = n := by omega
      exact ⟨_, rfl, ho, hb⟩

set_option maxHeartbeats 400000 in
theorem rounds_any (n : Nat) (w : World) (hn : n ≤ 1000) :
    Calls Tryd.prog 46 #[.int .i64 n] w fun e w' => ∃ v, e = .returned v ∧ w'.ownsRow w.heap.size 2 1 v n ((rounds n).map (Value.int .i64)) ∧ Below w.heap.size w w' := by
  go_enter Tryd.func46, Tryd.ntmps46
  go_wp2
  go_loopw [3, 6] (fun v i wr => ∃ k : Nat, k ≤ n ∧ i = .int .i64 (k : Int) ∧ wr.ownsRow w.heap.size 2 1 v k ((rounds k).map (Value.int .i64)) ∧ Below w.heap.size w wr) (fun _ i _ => n + 1 - (intOf i).toNat)
  case atStart => exact ⟨0, Nat.zero_le _, by simp, World.ownsRow_nil _ _ _ _, Below.refl _ _⟩
  case round =>
    obtain ⟨k, hk, rfl, ho, hb⟩ := hrel
    obtain ⟨a, cap, rfl⟩ := owns_slice ho
    have hs := hb.size
    by_cases hlt : k < n
    · go_wp2_with (at_builtin; refine append_one rfl _ _ 63 rfl w.heap.size 2 (.int .i64 0) 1 8 Tryd.underlying63 info_int rfl (by decide) _ k _ rfl ho [.int .i64 ((k : Int) + 1)] rfl (by simp [Value.oneCell']) rfl (by omega) (by decide) hs ?_)
      intro a' cap' w1 ho1 _ hb1
      go_wp2
      go_roundw
      case rel => exact ⟨k + 1, by omega, by go_num, by rw [rounds_succ']; simpa using ho1, hb.trans hb1⟩
      case measure => simp [intOf]; omega
    · go_wp2
      go_ret
      obtain rfl : k = n := by omega
      exact ⟨_, rfl, ho, hb⟩

def stage (n : Int) : Prop := 3 ≤ n ∧ n ≤ 12
instance (n : Int) : Decidable (stage n) := by unfold stage; infer_instance
def roundsOf (n : Int) : List Int := if stage n then rounds n.toNat else []
def roundsCode (n : Int) : Int := if stage n then 0 else 2

theorem isStage_any (b : Bool) (n : Int) (w : World) (h : b = decide (stage n)) :
    Calls Tryd.prog 27 #[.int .i64 n] w fun e w' => e = .returned (.bool b) ∧ w' = w := by
  have H := Lib.hid h; clear h
  go_enter Tryd.func27, Tryd.ntmps27
  go_wp2_with (go_at_call 61; refine (within_any b _ _ _ _ H.out).mono ?_; rintro e w' ⟨rfl, rfl⟩)
  go_ret
  exact ⟨rfl, rfl⟩

theorem l27Stage_any (b : Bool) (n : Int) (w : World) (h : b = decide (stage n)) :
    Calls Tryd.prog 58 #[.int .i64 n] w fun e w' => e = .returned (.bool b) ∧ w' = w := by
  have H := Lib.hid h; clear h
  go_enter Tryd.func58, Tryd.ntmps58
  go_wp2_with (go_at_call 90; refine (l00In_any b _ _ _ _ H.out).mono ?_; rintro e w' ⟨rfl, rfl⟩)
  go_ret
  exact ⟨rfl, rfl⟩

/-- A result of a list and a code. -/
def Two (w w' : World) (e : Ending) (xs : List Int) (code : Int) : Prop :=
  ∃ v, e = .returned (.tuple #[v, .int .i64 code]) ∧ OwnInts w.heap.size w'.heap.size w' v xs ∧ Below w.heap.size w w'

theorem roundsOf_len (n : Int) : (roundsOf n).length ≤ 1000 := by
  unfold roundsOf; split
  · rename_i h; unfold stage at h; rw [rounds_len]; omega
  · simp

end Go.Proofs.YtgdfecnpkjnhnaaDoor
