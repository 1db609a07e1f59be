/- Contracts of the laws' helpers over slices of Lever: equality, marks; slices.Equal. -/
import Derived.Test.YtijhlllajddlpaaDoorLev
set_option linter.unusedSimpArgs false
set_option linter.unnecessarySimpa false
set_option linter.unusedVariables false
namespace Go.Proofs.YtijhlllajddlpaaDoor
open Go.RowKit

set_option maxHeartbeats 400000 in
theorem eqLevs_any (v1 v2 : Value) (xs ys : List Lev) (w : World) (h1 : Levs w v1 xs) (h2 : Levs w v2 ys) :
    Calls Tryd.prog 29 #[v1, v2] w fun e w' => e = .returned (.bool (decide (xs = ys))) ∧ Below w.heap.size w w' := by
  obtain ⟨a, ca, rfl, hca, hcm, _⟩ := id h1
  obtain ⟨b, cb, rfl, _, _, _⟩ := id h2
  by_cases hl : xs.length = ys.length
  · have hm : xs.length ≤ maxLen := by omega
    clear hca hcm
    unfold maxLen at hm
    have hl1 : ((xs.length : Int) != (ys.length : Int)) = false := by rw [hl]; simp
    have HL := Lib.hid hl; clear hl
    go_enter Tryd.func29, Tryd.ntmps29
    go_wp2
    go_loopw [5] (fun i wr => ∃ k : Nat, k ≤ xs.length ∧ i = .int .i64 k ∧ xs.take k = ys.take k ∧ Below w.heap.size w wr) (fun i _ => xs.length - (intOf i).toNat)
    case atStart => exact ⟨0, Nat.zero_le _, rfl, by simp, Below.refl _ _⟩
    case round =>
      obtain ⟨k, hk, rfl, ht, hb⟩ := hrel
      have HT := Lib.hid ht; clear ht
      by_cases hlt : k < xs.length
      · have hk2 : k < ys.length := by rw [← HL.out]; exact hlt
        obtain ⟨b1, o1, rfl, hB1, c0, c1⟩ := (h1.mono hb).at hlt
        obtain ⟨b2, o2, rfl, hB2, d0, d1⟩ := (h2.mono hb).at hk2

        go_wp2
        refine wp_region_ord [(0, true), (1, true), (2, true), (3, true), (4, true), (5, true), (6, true), (7, true), (8, false), (9, true)] (none) (by kernel_rfl) (by kernel_rfl) ?_
        (repeat (with_reducible refine wpOrd_soft (fun K hK => ?_); simp only [List.getElem?_toArray, List.getElem?_cons_zero, List.getElem?_cons_succ]; first | (go_simp; refine hK _ ?_) | (simp only [undef]; go_simp; refine hK _ ?_); clear hK K))
        (with_reducible refine wpOrd_hard ?_; simp only [List.getElem?_toArray, List.getElem?_cons_zero, List.getElem?_cons_succ])
        go_wp2_with fail
        refine (eqLev_any xs[k] ys[k] _).mono ?_
        rintro e w2 ⟨rfl, hb2⟩
        have hbr : Below wr.heap.size wr w2 := undrew hb2
        have hb3 : Below w.heap.size w w2 := hb.trans (hbr.mono hb.size)
        by_cases he : xs[k] = ys[k]
        rotate_left
        all_goals
          have HE := Lib.hid he
          first | have hd : decide (xs[k] = ys[k]) = false := by simpa using he
                | have hd : decide (xs[k] = ys[k]) = true := by simpa using he
          clear he
          go_wp2
          refine ⟨grown_of_below hbr, ?_⟩
          (repeat (with_reducible refine wpOrd_soft (fun K hK => ?_); simp only [List.getElem?_toArray, List.getElem?_cons_zero, List.getElem?_cons_succ]; first | (go_simp; refine hK _ ?_) | (simp only [undef]; go_simp; refine hK _ ?_); clear hK K))
          (with_reducible refine wpOrd_nil ?_); refine NoPanic.normal ?_
        · go_wp2
          go_ret
          exact ⟨ret_bool (by simpa using ne_of_get hlt hk2 (by simpa using HE.out)), hb3⟩
        · go_wp2
          go_roundw
          case rel => exact ⟨k + 1, by omega, by go_num, take_step hlt hk2 HT.out (by simpa using HE.out), hb3⟩
          case measure => simp [intOf]; omega
      · go_wp2
        go_ret
        exact ⟨ret_bool (by simpa using eq_of_take HL.out hlt HT.out), hb⟩
  · have hl1 : ((xs.length : Int) != (ys.length : Int)) = true := by simp; omega
    have hne : xs ≠ ys := fun e => hl (by rw [e])
    clear hl
    go_enter Tryd.func29, Tryd.ntmps29
    go_wp2
    go_ret
    exact ⟨ret_bool (by simpa using hne), Below.refl _ _⟩

set_option maxHeartbeats 400000 in
theorem equalLevs_any (v1 v2 : Value) (xs ys : List Lev) (w : World) (h1 : Levs w v1 xs) (h2 : Levs w v2 ys) :
    Calls Tryd.prog 43 #[v1, v2] w fun e w' => e = .returned (.bool (decide (xs = ys))) ∧ Below w.heap.size w w' := by
  obtain ⟨a, ca, rfl, hca, hcm, _⟩ := id h1
  obtain ⟨b, cb, rfl, _, _, _⟩ := id h2
  by_cases hl : xs.length = ys.length
  · have hm : xs.length ≤ maxLen := by omega
    clear hca hcm
    unfold maxLen at hm
    have hl1 : ((xs.length : Int) != (ys.length : Int)) = false := by rw [hl]; simp
    have HL := Lib.hid hl; clear hl
    go_enter Tryd.func43, Tryd.ntmps43
    go_wp2
    go_loopw [13, 5] (fun i _ wr => ∃ k : Nat, k ≤ xs.length ∧ i = .int .i64 k ∧ xs.take k = ys.take k ∧ Below w.heap.size w wr) (fun i _ _ => xs.length - (intOf i).toNat)
    case atStart => exact ⟨0, Nat.zero_le _, rfl, by simp, Below.refl _ _⟩
    case round =>
      obtain ⟨k, hk, rfl, ht, hb⟩ := hrel
      have HT := Lib.hid ht; clear ht
      by_cases hlt : k < xs.length
      · have hk2 : k < ys.length := by rw [← HL.out]; exact hlt
        obtain ⟨b1, o1, rfl, hB1, c0, c1⟩ := (h1.mono hb).at hlt
        obtain ⟨b2, o2, rfl, hB2, d0, d1⟩ := (h2.mono hb).at hk2
        by_cases h0 : xs[k].inn = ys[k].inn
        · skip
          by_cases h1 : xs[k].out = ys[k].out
          · skip
            have HE := Lib.hid ((Lev.ext_iff' _ _).2 ⟨h0, h1⟩)
            have e0 : (xs[k].inn == ys[k].inn) = true := by simpa using h0
            have e1 : (xs[k].out == ys[k].out) = true := by simpa using h1
            clear h0 h1
            go_wp2
            go_quiet (fail)
            go_wp2
            go_roundw
            case rel => exact ⟨k + 1, by omega, by go_num, take_step hlt hk2 HT.out (by simpa using HE.out), below_drewN hb _⟩
            case measure => simp [intOf]; omega
          · have HE := Lib.hid (show ¬ xs[k] = ys[k] from fun e => h1 (by rw [e]))
            have e0 : (xs[k].inn == ys[k].inn) = true := by simpa using h0
            have e1 : (xs[k].out == ys[k].out) = false := by simpa using h1
            clear h0 h1
            go_wp2
            go_quiet (fail)
            go_wp2
            go_ret
            exact ⟨ret_bool (by simpa using ne_of_get hlt hk2 (by simpa using HE.out)), below_drewN hb _⟩
        · have HE := Lib.hid (show ¬ xs[k] = ys[k] from fun e => h0 (by rw [e]))
          have e0 : (xs[k].inn == ys[k].inn) = false := by simpa using h0
          clear h0
          go_wp2
          go_quiet (fail)
          go_wp2
          go_ret
          exact ⟨ret_bool (by simpa using ne_of_get hlt hk2 (by simpa using HE.out)), below_drewN hb _⟩
      · go_wp2
        go_ret
        exact ⟨ret_bool (by simpa using eq_of_take HL.out hlt HT.out), hb⟩
  · have hl1 : ((xs.length : Int) != (ys.length : Int)) = true := by simp; omega
    have hne : xs ≠ ys := fun e => hl (by rw [e])
    clear hl
    go_enter Tryd.func43, Tryd.ntmps43
    go_wp2
    go_ret
    exact ⟨ret_bool (by simpa using hne), Below.refl _ _⟩

set_option maxHeartbeats 400000 in
theorem markLevs_any (v : Value) (n base : Nat) (te : TypeId) (cs : List Value) (k : Nat) (w : World) (ho : w.ownsRow base te 2 v n cs) (hk : k + 2 * n ≤ 1000000000) :
    Calls Tryd.prog 32 #[v, .int .i64 k] w fun e w' => e = .returned (.int .i64 ↑(k + n * 2)) ∧ w'.ownsRow base te 2 v n (marks k (n * 2)) ∧ w.grownBy w' v.ownBlock := by
  rcases id ho with ⟨hl, ⟨rfl, rfl⟩ | ⟨g, cap, cur, rfl, hbase, hg, hn, hc, hs, ht⟩⟩
  · have hcs : cs = [] := by simpa using hl
    subst hcs
    go_enter Tryd.func32, Tryd.ntmps32
    go_wp2
    refine wp_loop_rounds 1 ?_
    rw [rounds_succ]
    go_wp2
    go_ret
    exact ⟨by simp, by simpa [marks] using ho, World.grownBy.refl _ _⟩
  · clear hg ht hs
    unfold maxLen at hc
    have HL := Lib.hid hl; clear hl
    go_enter Tryd.func32, Tryd.ntmps32
    go_wp2
    go_loopw [1, 5] (fun q i wr => ∃ t : Nat, t ≤ n ∧ i = .int .i64 t ∧ q = .int .i64 ↑(k + t * 2) ∧ wr.ownsRow base te 2 (.slice (some ⟨g, 0, none⟩) n cap) n (marks k (t * 2) ++ cs.drop (t * 2)) ∧ w.grownBy wr (some g)) (fun _ i _ => n - (intOf i).toNat)
    case atStart => exact ⟨0, Nat.zero_le _, rfl, by simp, by simpa [marks] using ho, World.grownBy.refl _ _⟩
    case round =>
      obtain ⟨t, ht, rfl, rfl, hw, hg⟩ := hrel
      by_cases hlt : t < n
      · have hlen := HL.out
        have x0 : (marks k (t * 2) ++ cs.drop (t * 2))[t * 2]? = some (cs.getD (t * 2 + 0) .nilFunc) := marks_at _ _ _ 0 (by rw [hlen]; omega)
        have d0 : wr.cell? ⟨g, t * 2, none⟩ = some (cs.getD (t * 2 + 0) .nilFunc) := by rw [hw.cellAt _ (by omega)]; exact x0
        have f0 := hw.frozenAt (t * 2)
        have x1 : (marks k (t * 2) ++ cs.drop (t * 2))[t * 2 + 1]? = some (cs.getD (t * 2 + 1) .nilFunc) := marks_at _ _ _ 1 (by rw [hlen]; omega)
        have d1 : wr.cell? ⟨g, t * 2 + 1, none⟩ = some (cs.getD (t * 2 + 1) .nilFunc) := by rw [hw.cellAt _ (by omega)]; exact x1
        have f1 := hw.frozenAt (t * 2 + 1)
        have HW := Lib.hid hw
        clear hw hlen x0 x1
        go_wp2
        have hlen := HL.out
        have q0 := HW.out
        have q1 := (q0).stored (t * 2) (.int .i64 ↑(k + (t * 2)))
        rw [marks_set k (t * 2) cs (by rw [hlen]; omega)] at q1
        have q2 := (q1.1).stored (t * 2 + 1) (.int .i64 ↑(k + (t * 2 + 1)))
        rw [marks_set k (t * 2 + 1) cs (by rw [hlen]; omega)] at q2
        have z0 : ((k + (t * 2) : Nat) : Int) = (k : Int) + (t : Int) * 2 := by omega
        have z1 : ((k + (t * 2 + 1) : Nat) : Int) = (k : Int) + (t : Int) * 2 + 1 := by omega
        simp only [z0, z1] at q2 q1
        exact ⟨⟨t + 1, by omega, by go_num, by congr 1; omega, by rw [show (t + 1) * 2 = t * 2 + 2 by omega]; exact q2.1, grown_trans hg (grown_trans q1.2 q2.2)⟩, by simp [intOf]; omega⟩
      · go_wp2
        go_ret
        obtain rfl : t = n := by omega
        exact ⟨rfl, by have := hw; rw [List.drop_of_length_le (by rw [HL.out]; omega), List.append_nil] at this; exact this, hg⟩

set_option maxHeartbeats 400000 in
theorem heldLevs_any (v : Value) (n k : Nat) (w : World) (h : Sl w v n (marks k (n * 2))) (hk : k + 2 * n ≤ 1000000000) :
    Calls Tryd.prog 33 #[v, .int .i64 k] w fun e w' => e = .returned (.int .i64 ↑(k + n * 2)) ∧ w' = w := by
  obtain ⟨a, cap, rfl, hn, hc, _⟩ := id h
  have hm : n ≤ 1000000000 := by omega
  clear hn hc
  go_enter Tryd.func33, Tryd.ntmps33
  go_wp2
  go_loop [1, 5] (fun q i => ∃ t : Nat, t ≤ n ∧ i = .int .i64 t ∧ q = .int .i64 ↑(k + t * 2)) (fun _ i => n - (intOf i).toNat)
  case atStart => exact ⟨0, Nat.zero_le _, rfl, by simp⟩
  case round =>
    obtain ⟨t, ht, rfl, rfl⟩ := hrel
    by_cases hlt : t < n
    · obtain ⟨b, off, rfl, c⟩ := h.cells (by rw [marks_len]; omega)
      have c0 : w.cell? ⟨b, off + t * 2, none⟩ = some (.int .i64 ((k : Int) + (t : Int) * 2)) := by have := c (t * 2 + 0) _ (marks_get k _ _ (by omega)); rw [show ((k + (t * 2 + 0) : Nat) : Int) = (k : Int) + (t : Int) * 2 by omega] at this; simpa [Nat.add_assoc] using this
      have c1 : w.cell? ⟨b, off + t * 2 + 1, none⟩ = some (.int .i64 ((k : Int) + (t : Int) * 2 + 1)) := by have := c (t * 2 + 1) _ (marks_get k _ _ (by omega)); rw [show ((k + (t * 2 + 1) : Nat) : Int) = (k : Int) + (t : Int) * 2 + 1 by omega] at this; simpa [Nat.add_assoc] using this
      clear c
      go_wp2
      exact ⟨⟨t + 1, by omega, by go_num, by congr 1; omega⟩, by simp [intOf]; omega⟩
    · go_wp2
      go_ret
      obtain rfl : t = n := by omega
      exact ⟨rfl, rfl⟩

end Go.Proofs.YtijhlllajddlpaaDoor
