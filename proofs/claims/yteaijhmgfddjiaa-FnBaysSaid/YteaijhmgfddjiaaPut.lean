/- Contracts of l00Put, slices.Sort and slices.Compact at []int64. -/
import Derived.Test.YteaijhmgfddjiaaSortI
import Derived.Test.YteaijhmgfddjiaaPutL
import Derived.Test.YteaijhmgfddjiaaApp
import Derived.Sort.OwnSortedInts
import Derived.Lib.OwnBridge
import Derived.Deep.QuietTactic
import Derived.BigQuiet
set_option linter.unusedSimpArgs false
set_option linter.unnecessarySimpa false
set_option linter.unusedVariables false
set_option maxRecDepth 100000
namespace Go.Proofs.Yteaijhmgfddjiaa
open Go.RowKit

theorem grown_putRow {w : World} {g n : Nat} (d : Array Int) : w.grownBy (Go.Sort.putRow (Value.int .i64) (Go.Sort.ahead w n) g 0 d) (some g) := by
  refine ⟨rfl, rfl, rfl, by simp [Go.Sort.putRow, Go.Sort.mapBlock, Go.Sort.ahead], fun k hk hne => ?_⟩
  have : g ≠ k := fun e => hne (by rw [e])
  simp [Go.Sort.putRow, Go.Sort.mapBlock, Go.Sort.ahead, Array.getElem?_modify, this]

/-- slices.Compact on a row of the call's own. -/
theorem compactInts_any (v : Value) (base n : Nat) (zs : List Int) (w : World) (hn : n = zs.length) (h : w.ownsRow base 2 1 v n (zs.map (Value.int .i64))) (hs : zs.length ≤ 1000000000) :
    Calls Try.prog 79 #[v] w fun e w' => ∃ v', e = .returned v' ∧ w'.ownsRow base 2 1 v' (Lib.compact zs).length ((Lib.compact zs).map (Value.int .i64)) ∧ w.grownBy w' v.ownBlock ∧ v'.ownBlock = v.ownBlock := by
  subst hn
  rcases h.2 with ⟨rfl, hn⟩ | ⟨g, cap, cur, rfl, hb, hg, h1, h2, h3, h4⟩
  · have hz : zs = [] := List.eq_nil_of_length_eq_zero hn
    subst hz
    have := Try.slices_Compact_int_empty none 0 w
    exact this.mono fun e w' ⟨he, hw⟩ => ⟨_, he, by rw [hw]; exact ⟨by simpa [Lib.compact, Lib.compactUpTo] using h, World.grownBy.refl w _, rfl⟩⟩
  · have hH := Go.holds_of_blockI hg (by rw [Nat.mul_one] at h4; exact h4)
    have := Try.slices_Compact_int g 0 cap zs w hH (by omega) h1
    have hle := Lib.compact_length_le zs
    refine this.mono fun e w' ⟨he, q, hw⟩ => ⟨_, he, ?_, ?_, rfl⟩
    · have hc := Lib.ownsRow_putRow (q := q) (k := (Lib.compact zs).length) (ys := Lib.compact zs ++ List.replicate (zs.length - (Lib.compact zs).length) 0) h (by simp; omega) (by omega)
      rw [List.take_left] at hc
      rw [hw]; exact hc
    · rw [hw]; exact grown_putRow _

set_option maxHeartbeats 2000000 in
theorem l00Put_any (v : Value) (xs : List Int) (n : Int) (w : World) (h : Ints w v xs) (hs : xs.length ≤ 100000000) :
    Calls Try.prog 72 #[v, .int .i64 n] w fun e w' => ∃ v', e = .returned v' ∧ w'.ownsRow w.heap.size 2 1 v' (putI xs n).length ((putI xs n).map (Value.int .i64)) ∧ Below w.heap.size w w' := by
  obtain ⟨a, ca, rfl, _⟩ := id h
  go_enter Try.func72, Try.ntmps72
  go_wp2_with fail
  go_loopw [5, 6, 7] (fun o dn i wr => ∃ (k : Nat) (d : Bool) (ys : List Int) (a' : Option Addr) (c' : Nat), k ≤ xs.length ∧ i = .int .i64 k ∧ dn = .bool d ∧ o = .slice a' ys.length c' ∧ wr.ownsRow w.heap.size 2 1 (.slice a' ys.length c') ys.length (ys.map (Value.int .i64)) ∧ ys.length ≤ k + 1 ∧ (d = false → ys.length ≤ k) ∧ ys ++ (if d = true then xs.drop k else putI (xs.drop k) n) = putI xs n ∧ Below w.heap.size w wr) (fun _ _ i _ => xs.length - (intOf i).toNat)
  case atStart => exact ⟨0, false, [], _, _, Nat.zero_le _, rfl, rfl, rfl, owns_empty w _ 1 _ (Nat.le_refl _), by simp, by simp, by simp, by (repeat (first | with_reducible exact Below.refl _ _ | with_reducible exact hbw | (with_reducible refine Below.setCell ?_ ?_ _; rotate_left; · first | exact Nat.le_refl _ | omega | (simp; done) | (simp; omega)) | (with_reducible refine Below.alloc ?_ ?_ _; rotate_left; · first | exact Nat.le_refl _ | omega | (simp; done) | (simp; omega)) | with_reducible refine below_drewN ?_ _ | with_reducible refine Below.drew ?_))⟩
  case round =>
    obtain ⟨k, d, ys, a1, c1, hk, rfl, rfl, rfl, ho, hyl, hyd, hE', hb⟩ := hrel
    have hE := Lib.hid hE'; clear hE'
    have hsz := hb.size
    by_cases hlt : k < xs.length
    · obtain ⟨b1, o1, rfl, hc⟩ := (h.mono hb).cells (by simp; omega)
      have u0 : wr.cell? ⟨b1, o1 + k, none⟩ = some (.int .i64 xs[k]) := hc k _ (by simp [hlt])
      have hB := World.block_lt_of_cell? _ _ u0
      simp only at hB
      have hB1 : b1 < wr.heap.size + 1 := by omega
      clear hc
      cases d
      · have hyd' := hyd rfl
        by_cases g1 : n ≤ xs[k]
        · have d1 : decide (n ≤ xs[k]) = true := by simpa using g1
          by_cases g2 : n < xs[k]
          · have d2 : decide (n < xs[k]) = true := by simpa using g2
            have HS := Lib.hid (putI_drop hlt n)
            go_wp2_with (at_builtin; refine append_one rfl _ _ 28 rfl w.heap.size 2 (.int .i64 0) 1 8 Try.underlying28 info_int64 rfl (by decide) _ ys.length _ rfl ho [.int .i64 n] rfl (by simp [Value.oneCell']) rfl (by omega) (by decide) hsz ?_)
            intro a' cap' w1 ho1 _ hb1
            have hb2 := hb.trans hb1
            have hsz2 := hb2.size
            obtain ⟨b2, o2, e2, hc2⟩ := (h.mono hb2).cells (by simp; omega)
            cases e2
            have u2 : w1.cell? ⟨b1, o1 + k, none⟩ = some (.int .i64 xs[k]) := hc2 k _ (by simp [hlt])
            have hB2 := World.block_lt_of_cell? _ _ u2
            simp only at hB2
            have hB3 : b1 < w1.heap.size + 1 := by omega
            clear hc2 u0
            go_wp2_with (at_builtin; refine append_one rfl _ _ 28 rfl w.heap.size 2 (.int .i64 0) 1 8 Try.underlying28 info_int64 rfl (by decide) _ (ys.length + 1) _ rfl ho1 [.int .i64 xs[k]] rfl (by simp [Value.oneCell']) rfl (by omega) (by decide) hsz2 ?_)
            intro a' cap' w1 ho1 _ hb1
            go_wp2
            go_roundw
            case rel => exact ⟨k + 1, true, ys ++ [n] ++ [xs[k]], a', cap', by omega, by go_num, rfl, by simp, by simpa using ho1, by simp; omega, by simp, by rw [← hE.out]; simp [HS.out, show n ≤ xs[k] by omega, show n < xs[k] by omega], hb2.trans hb1⟩
            case measure => simp [intOf] <;> omega
          · have d2 : decide (n < xs[k]) = false := by simpa using g2
            have HS := Lib.hid (putI_drop hlt n)
            go_wp2_with (at_builtin; refine append_one rfl _ _ 28 rfl w.heap.size 2 (.int .i64 0) 1 8 Try.underlying28 info_int64 rfl (by decide) _ ys.length _ rfl ho [.int .i64 xs[k]] rfl (by simp [Value.oneCell']) rfl (by omega) (by decide) hsz ?_)
            intro a' cap' w1 ho1 _ hb1
            go_wp2
            go_roundw
            case rel => exact ⟨k + 1, true, ys ++ [xs[k]], a', cap', by omega, by go_num, rfl, by simp, by simpa using ho1, by simp; omega, by simp, by rw [← hE.out]; simp [HS.out, show n ≤ xs[k] by omega, show ¬ n < xs[k] by omega], hb.trans hb1⟩
            case measure => simp [intOf] <;> omega
        · have d1 : decide (n ≤ xs[k]) = false := by simpa using g1
          have HS := Lib.hid (putI_drop hlt n)
          go_wp2_with (at_builtin; refine append_one rfl _ _ 28 rfl w.heap.size 2 (.int .i64 0) 1 8 Try.underlying28 info_int64 rfl (by decide) _ ys.length _ rfl ho [.int .i64 xs[k]] rfl (by simp [Value.oneCell']) rfl (by omega) (by decide) hsz ?_)
          intro a' cap' w1 ho1 _ hb1
          go_wp2
          go_roundw
          case rel => exact ⟨k + 1, false, ys ++ [xs[k]], a', cap', by omega, by go_num, rfl, by simp, by simpa using ho1, by simp; omega, by simp; omega, by rw [← hE.out]; simp [HS.out, show ¬ n ≤ xs[k] by omega], hb.trans hb1⟩
          case measure => simp [intOf] <;> omega
      · have HS := Lib.hid (List.drop_eq_getElem_cons hlt)
        go_wp2_with (at_builtin; refine append_one rfl _ _ 28 rfl w.heap.size 2 (.int .i64 0) 1 8 Try.underlying28 info_int64 rfl (by decide) _ ys.length _ rfl ho [.int .i64 xs[k]] rfl (by simp [Value.oneCell']) rfl (by omega) (by decide) hsz ?_)
        intro a' cap' w1 ho1 _ hb1
        go_wp2
        go_roundw
        case rel => exact ⟨k + 1, true, ys ++ [xs[k]], a', cap', by omega, by go_num, rfl, by simp, by simpa using ho1, by simp; omega, by simp, by rw [← hE.out]; simp only [if_true]; rw [List.append_assoc, HS.out]; rfl, hb.trans hb1⟩
        case measure => simp [intOf] <;> omega
    · obtain rfl : k = xs.length := by omega
      cases d
      · have HS := Lib.hid (show ys ++ [n] = putI xs n by have := hE.out; simpa [putI] using this)
        go_wp2_with (at_builtin; refine append_one rfl _ _ 28 rfl w.heap.size 2 (.int .i64 0) 1 8 Try.underlying28 info_int64 rfl (by decide) _ ys.length _ rfl ho [.int .i64 n] rfl (by simp [Value.oneCell']) rfl (by omega) (by decide) hsz ?_)
        intro a' cap' w1 ho1 _ hb1
        go_wp2
        go_ret
        exact ⟨_, rfl, by rw [← HS.out]; simpa using ho1, hb.trans hb1⟩
      · have HS := Lib.hid (show ys = putI xs n by have := hE.out; simpa using this)
        go_wp2
        go_ret
        exact ⟨_, rfl, by rw [← HS.out]; exact ho, hb⟩

end Go.Proofs.Yteaijhmgfddjiaa
