/- Contracts of the laws' marks over slices of numbers. -/
import Derived.Test.YteaijhmgfddjiaaChecked
import Derived.Test.YteaijhmgfddjiaaMem
set_option linter.unusedSimpArgs false
set_option linter.unnecessarySimpa false
set_option linter.unusedVariables false
namespace Go.Proofs.Yteaijhmgfddjiaa
open Go.RowKit

set_option maxHeartbeats 400000 in
theorem markInts_any (v : Value) (n base : Nat) (te : TypeId) (cs : List Value) (k : Nat) (w : World) (ho : w.ownsRow base te 1 v n cs) (hk : k + 1 * n ≤ 1000000000) :
    Calls Try.prog 25 #[v, .int .i64 k] w fun e w' => e = .returned (.int .i64 ↑(k + n * 1)) ∧ w'.ownsRow base te 1 v n (marks k (n * 1)) ∧ w.grownBy w' v.ownBlock := by
  rcases id ho with ⟨hl, ⟨rfl, rfl⟩ | ⟨g, cap, cur, rfl, hbase, hg, hn, hc, hs, ht⟩⟩
  · have hcs : cs = [] := by simpa using hl
    subst hcs
    go_enter Try.func25, Try.ntmps25
    go_wp2
    refine wp_loop_rounds 1 ?_
    rw [rounds_succ]
    go_wp2
    go_ret
    exact ⟨by simp, by simpa [marks] using ho, World.grownBy.refl _ _⟩
  · clear hg ht hs
    unfold maxLen at hc
    have HL := Lib.hid hl; clear hl
    go_enter Try.func25, Try.ntmps25
    go_wp2
    go_loopw [1, 5] (fun q i wr => ∃ t : Nat, t ≤ n ∧ i = .int .i64 t ∧ q = .int .i64 ↑(k + t) ∧ wr.ownsRow base te 1 (.slice (some ⟨g, 0, none⟩) n cap) n (marks k t ++ cs.drop t) ∧ w.grownBy wr (some g)) (fun _ i _ => n - (intOf i).toNat)
    case atStart => exact ⟨0, Nat.zero_le _, rfl, by simp, by simpa [marks] using ho, World.grownBy.refl _ _⟩
    case round =>
      obtain ⟨t, ht, rfl, rfl, hw, hg⟩ := hrel
      by_cases hlt : t < n
      · have hlen := HL.out
        have x0 : (marks k t ++ cs.drop t)[t]? = some (cs.getD t .nilFunc) := marks_at _ _ _ 0 (by rw [hlen]; omega)
        have d0 : wr.cell? ⟨g, t, none⟩ = some (cs.getD t .nilFunc) := by rw [hw.cellAt _ (by omega)]; exact x0
        have f0 := hw.frozenAt t
        have HW := Lib.hid hw
        clear hw hlen x0
        go_wp2
        have hlen := HL.out
        have q1 := (HW.out).stored t (.int .i64 ↑(k + t))
        rw [marks_set k t cs (by rw [hlen]; omega)] at q1
        have z0 : ((k + t : Nat) : Int) = (k : Int) + (t : Int) := by omega
        simp only [z0] at q1
        exact ⟨⟨t + 1, by omega, by go_num, by go_num, q1.1, grown_trans hg q1.2⟩, by simp [intOf]; omega⟩
      · go_wp2
        go_ret
        obtain rfl : t = n := by omega
        exact ⟨by simp, by have := hw; rw [List.drop_of_length_le (by rw [HL.out]; omega), List.append_nil] at this; simpa using this, hg⟩

set_option maxHeartbeats 400000 in
theorem heldInts_any (v : Value) (n k : Nat) (w : World) (h : Sl w v n (marks k (n * 1))) (hk : k + 1 * n ≤ 1000000000) :
    Calls Try.prog 26 #[v, .int .i64 k] w fun e w' => e = .returned (.int .i64 ↑(k + n * 1)) ∧ w' = w := by
  obtain ⟨a, cap, rfl, hn, hc, _⟩ := id h
  have hm : n ≤ 1000000000 := by omega
  clear hn hc
  go_enter Try.func26, Try.ntmps26
  go_wp2
  go_loop [1, 5] (fun q i => ∃ t : Nat, t ≤ n ∧ i = .int .i64 t ∧ q = .int .i64 ↑(k + t)) (fun _ i => n - (intOf i).toNat)
  case atStart => exact ⟨0, Nat.zero_le _, rfl, by simp⟩
  case round =>
    obtain ⟨t, ht, rfl, rfl⟩ := hrel
    by_cases hlt : t < n
    · obtain ⟨b, off, rfl, c⟩ := h.cells (by rw [marks_len]; omega)
      have c0 : w.cell? ⟨b, off + t, none⟩ = some (.int .i64 ((k : Int) + (t : Int))) := by have := c t _ (marks_get k _ _ (by omega)); rw [show ((k + t : Nat) : Int) = (k : Int) + (t : Int) by omega] at this; exact this
      clear c
      go_wp2
      exact ⟨⟨t + 1, by omega, by go_num, by go_num⟩, by simp [intOf]; omega⟩
    · go_wp2
      go_ret
      obtain rfl : t = n := by omega
      exact ⟨by simp, rfl⟩

end Go.Proofs.Yteaijhmgfddjiaa
