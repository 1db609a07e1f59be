import Derived.Test.YtemmnjokojgjaaaFfZ16
import Derived.Test.YtemmnjokojgjaaaFfZ1
/- The laws' small helpers b10At, b10Abs, b10Nums, b10With. -/
set_option linter.unusedSimpArgs false
set_option linter.unnecessarySimpa false
set_option linter.unusedVariables false
set_option maxRecDepth 100000
namespace Go.Proofs.Ytemmnjokojgjaaa
open Go.RowKit

theorem b10At_any (v : Value) (bs : List Int) (k : Nat) (n : Int) (w : World) (h : Byts w v bs) (ok : okByts bs) (hk2 : k ≤ 1000000) (hn : 2 ≤ n) (hn2 : n ≤ 1000000000) :
    Calls Try.prog 30 #[v, .int .i64 (k : Int), .int .i64 n] w fun e w' => ∃ r : Int, e = .returned (.int .i64 r) ∧ 0 ≤ r ∧ r < n ∧ w = w' := by
  obtain ⟨a, ca, rfl, hca, hcm, _⟩ := id h
  have hm : bs.length ≤ maxLen := by omega
  unfold maxLen at hm
  clear hca hcm
  have d1 : ¬ n ≤ 1 := by omega
  have n1 : ¬ n = 0 := by omega
  by_cases g2 : k < bs.length
  · have d2 : (k : Int) < (bs.length : Int) := by omega
    obtain ⟨b1, o1, rfl, c1⟩ := Sl.cells h (by simp <;> omega)
    have u0 : w.cell? ⟨b1, o1 + k, none⟩ = some (.int .u8 bs[k]) := c1 k _ (by simp [g2])
    have hx := ok _ (List.getElem_mem g2)
    have r1 := Int.tmod_lt_of_pos bs[k] (show 0 < n by omega)
    have r0 := Int.tmod_nonneg n (show 0 ≤ bs[k] by omega)
    have R1 := Lib.hid r1; have R0 := Lib.hid r0
    have w1 : IntKind.i64.wrap bs[k] = bs[k] := IntWalk.i64_in _ (by omega)
    have w2 : IntKind.i64.wrap (bs[k].tmod n) = bs[k].tmod n := IntWalk.i64_in _ (by omega)
    clear c1 r1 r0 hx
    go_enter Try.func30, Try.ntmps30
    go_wp2
    go_ret
    exact ⟨_, rfl, R0.out, R1.out, rfl⟩
  · have d2 : ¬ (k : Int) < (bs.length : Int) := by omega
    have r1 := Int.tmod_lt_of_pos ((k : Int) * 37 + 11) (show 0 < n by omega)
    have r0 := Int.tmod_nonneg n (show 0 ≤ (k : Int) * 37 + 11 by omega)
    have R1 := Lib.hid r1; have R0 := Lib.hid r0
    have w0 : IntKind.i64.wrap ((k : Int) * 37) = (k : Int) * 37 := IntWalk.i64_in _ (by omega)
    have w1 : IntKind.i64.wrap ((k : Int) * 37 + 11) = (k : Int) * 37 + 11 := IntWalk.i64_in _ (by omega)
    have w2 : IntKind.i64.wrap (((k : Int) * 37 + 11).tmod n) = ((k : Int) * 37 + 11).tmod n := IntWalk.i64_in _ (by omega)
    have he := Int.tmod_eq_emod_of_nonneg (b := n) (show 0 ≤ (k : Int) * 37 + 11 by omega)
    have R1' := Lib.hid (he ▸ R1.out); have R0' := Lib.hid (he ▸ R0.out)
    clear r1 r0 he
    go_enter Try.func30, Try.ntmps30
    go_wp2
    go_ret
    first | exact ⟨_, rfl, R0.out, R1.out, rfl⟩ | exact ⟨_, rfl, R0'.out, R1'.out, rfl⟩

theorem b10Abs_any (n : Int) (w : World) (h : -1000000 ≤ n) (h2 : n ≤ 1000000) :
    Calls Try.prog 28 #[.int .i64 n] w fun e w' => e = .returned (.int .i64 (absI n)) ∧ w = w' := by
  by_cases g : n < 0
  · have E := Lib.hid (show absI n = -n from if_pos g)
    have w1 : IntKind.i64.wrap (-n) = -n := IntWalk.i64_in _ (by omega)
    go_enter Try.func28, Try.ntmps28
    go_wp2
    go_ret
    exact ⟨by rw [E.out]; rfl, rfl⟩
  · have E := Lib.hid (show absI n = n from if_neg g)
    go_enter Try.func28, Try.ntmps28
    go_wp2
    go_ret
    exact ⟨by rw [E.out]; rfl, rfl⟩

set_option maxHeartbeats 400000 in
theorem b10Nums_any (v1 v2 : Value) (xs : List Int) (w : World) (h1 : Ints w v1 xs) (h2 : Ints w v2 xs) :
    Calls Try.prog 34 #[v1, v2] w fun e w' => e = .returned (.bool true) ∧ Q w w' := by
  obtain ⟨a, ca, rfl, hca, hcm, _⟩ := id h1
  obtain ⟨b, cb, rfl, _, _, _⟩ := id h2
  have hm : xs.length ≤ maxLen := by omega
  clear hca hcm
  unfold maxLen at hm
  go_enter Try.func34, Try.ntmps34
  go_wp2
  go_loopw [5] (fun i wr => ∃ k : Nat, k ≤ xs.length ∧ i = .int .i64 (k : Int) ∧ Q w wr) (fun i _ => xs.length - (intOf i).toNat)
  case atStart => exact ⟨0, Nat.zero_le _, by go_num, Q.refl _⟩
  case round =>
    obtain ⟨k, hk, rfl, hq⟩ := hrel
    by_cases hlt : k < xs.length
    · obtain ⟨b1, o1, rfl, c1⟩ := (h1.q hq).cells (by simp; omega)
      obtain ⟨b2, o2, rfl, c2⟩ := (h2.q hq).cells (by simp; omega)
      have d1 : wr.cell? ⟨b1, o1 + k, none⟩ = some (.int .i64 xs[k]) := c1 k _ (by simp [hlt])
      have d2 : wr.cell? ⟨b2, o2 + k, none⟩ = some (.int .i64 xs[k]) := c2 k _ (by simp [hlt])
      clear c1 c2
      go_wp2
      go_quiet (fail)
      go_wp2
      go_roundw
      case rel => exact ⟨k + 1, by omega, by go_num, hq.drewN _⟩
      case measure => simp [intOf] <;> omega
    · go_wp2
      go_ret
      exact ⟨rfl, hq⟩

end Go.Proofs.Ytemmnjokojgjaaa
/- The law's way to put a number into a row. Contract of b10With. -/
set_option linter.unusedSimpArgs false
set_option linter.unnecessarySimpa false
set_option linter.unusedVariables false
set_option maxRecDepth 100000
namespace Go.Proofs.Ytemmnjokojgjaaa
open Go.RowKit

theorem with_at {xs : List Int} {k : Nat} (h : k < xs.length) (n : Int) (d : Bool) : withL (xs.drop k) n d = (if d = false ∧ n ≤ xs[k] then [n] else []) ++ (if xs[k] ≠ n then [xs[k]] else []) ++ withL (xs.drop (k + 1)) n (d || decide (n ≤ xs[k])) := by
  rw [List.drop_eq_getElem_cons h]; rfl

set_option maxHeartbeats 2000000 in
theorem b10With_any (v : Value) (xs : List Int) (n : Int) (w : World) (h : Ints w v xs) (hs : xs.length ≤ 100000) :
    Calls Try.prog 33 #[v, .int .i64 n] w fun e w' => ∃ v', e = .returned v' ∧ OwnInts w.heap.size w'.heap.size w' v' (withL xs n false) ∧ Below w.heap.size w w' := by
  obtain ⟨a, ca, rfl, _, _, _⟩ := id h
  go_enter Try.func33, Try.ntmps33
  go_wp2_with fail
  go_loopw [5, 6, 7] (fun o dv iv wr => ∃ (k m : Nat) (ys : List Int) (d : Bool) (a' : Option Addr) (c' : Nat), o = .slice a' m c' ∧ iv = .int .i64 (k : Int) ∧ dv = .bool d ∧ ys.length = m ∧ k ≤ xs.length ∧ m ≤ 2 * k ∧ ys ++ withL (xs.drop k) n d = withL xs n false ∧ wr.ownsRow w.heap.size 2 1 (.slice a' m c') m (ys.map (Value.int .i64)) ∧ Below w.heap.size w wr) (fun _ _ iv _ => xs.length - (intOf iv).toNat)
  case atStart => exact ⟨0, 0, [], false, _, _, rfl, by go_num, rfl, rfl, Nat.zero_le _, by omega, by simp, by simpa using owns_empty w 2 1 _ (Nat.le_refl _), belowA _ _⟩
  case round =>
    obtain ⟨k, m, ys, d, a', c', rfl, rfl, rfl, hym, hk, hmk, hys, ho, hb⟩ := hrel
    have HYM := Lib.hid hym; have HYS0 := Lib.hid hys; have HO := Lib.hid ho; have HB := Lib.hid hb
    have hz := hb.size
    clear hym hys ho hb
    by_cases hlt : k < xs.length
    · obtain ⟨b1, o1, rfl, q1⟩ := Sl.cells (h.mono HB.out) (by simp; omega)
      have z1 : wr.cell? ⟨b1, o1 + k, none⟩ = some (.int .i64 xs[k]) := q1 k _ (by simp [hlt])
      have hb1 := World.block_lt_of_cell? _ _ z1
      have hw1 : b1 < w.heap.size := by
        obtain ⟨b2, o2, e2, q2⟩ := Sl.cells h (by simp; omega)
        simp only [Option.some.injEq, Addr.mk.injEq] at e2
        obtain ⟨rfl, rfl, _⟩ := e2
        have := World.block_lt_of_cell? _ _ (q2 k (.int .i64 xs[k]) (by simp [hlt]))
        exact this
      have zw : w.cell? ⟨b1, o1 + k, none⟩ = some (.int .i64 xs[k]) := by
        rw [← z1]; symm
        exact HB.out.cell (p := ⟨b1, o1 + k, none⟩) hw1
      have WA := Lib.hid (with_at hlt n d)
      clear q1 hb1
      by_cases c1 : n ≤ xs[k]
      · cases d
        · by_cases c2 : xs[k] = n
          · have d2 : (xs[k] != n) = false := by simpa using c2
            have HYS := Lib.hid (show (ys ++ [n]) ++ withL (xs.drop (k + 1)) n true = withL xs n false by rw [← HYS0.out, WA.out, if_pos ⟨rfl, c1⟩, if_neg (by simp [c2])]; simp [c1])
            clear c2
            go_wp2_with (at_builtin; refine append_one_at rfl _ _ 25 rfl w.heap.size 2 (.int .i64 0) 1 8 Try.underlying25 info_int rfl (by decide) _ (m) _ rfl HO.out [.int .i64 n] rfl (by simp [Value.oneCell']) wr.heap.size rfl rfl (by omega) (by decide) (by omega) ?_)
            intro a7 c7 w7 ho7 hg7 hb7 _
            have HO7 := Lib.hid ho7
            have HB7 := Lib.hid (HB.out.trans hb7)
            have hz7 := HB7.out.size
            clear ho7 hg7 hb7
            have z7 := cellB (Below.mono (B := w.heap.size) HB7.out (Nat.le_refl _)) zw
            go_wp2
            go_roundw
            case rel => exact ⟨k + 1, m + 1, ys ++ [n], true, a7, c7, rfl, by go_num, rfl, by simp [HYM.out], by omega, by omega, HYS.out, by have := HO7.out; simpa using this, HB7.out⟩
            case measure => simp [intOf] <;> omega
          · have d2 : (xs[k] != n) = true := by simpa using c2
            have HYS := Lib.hid (show (ys ++ [n, xs[k]]) ++ withL (xs.drop (k + 1)) n true = withL xs n false by rw [← HYS0.out, WA.out, if_pos ⟨rfl, c1⟩, if_pos c2]; simp [c1])
            clear c2
            go_wp2_with (at_builtin; refine append_one_at rfl _ _ 25 rfl w.heap.size 2 (.int .i64 0) 1 8 Try.underlying25 info_int rfl (by decide) _ (m) _ rfl HO.out [.int .i64 n] rfl (by simp [Value.oneCell']) wr.heap.size rfl rfl (by omega) (by decide) (by omega) ?_)
            intro a7 c7 w7 ho7 hg7 hb7 _
            have HO7 := Lib.hid ho7
            have HB7 := Lib.hid (HB.out.trans hb7)
            have hz7 := HB7.out.size
            clear ho7 hg7 hb7
            have z7 := cellB (Below.mono (B := w.heap.size) HB7.out (Nat.le_refl _)) zw
            clear z1
            go_wp2_with (at_builtin; refine append_one_at rfl _ _ 25 rfl w.heap.size 2 (.int .i64 0) 1 8 Try.underlying25 info_int rfl (by decide) _ (m + 1) _ rfl HO7.out [.int .i64 xs[k]] rfl (by simp [Value.oneCell']) w7.heap.size rfl rfl (by omega) (by decide) (by omega) ?_)
            intro a8 c8 w8 ho8 hg8 hb8 _
            have HO8 := Lib.hid ho8
            have HB8 := Lib.hid (HB7.out.trans hb8)
            have hz8 := HB8.out.size
            clear ho8 hg8 hb8
            go_wp2
            go_roundw
            case rel => exact ⟨k + 1, m + 1 + 1, ys ++ [n, xs[k]], true, a8, c8, rfl, by go_num, rfl, by simp [HYM.out], by omega, by omega, HYS.out, by have := HO8.out; simpa using this, HB8.out⟩
            case measure => simp [intOf] <;> omega
        · by_cases c2 : xs[k] = n
          · have d2 : (xs[k] != n) = false := by simpa using c2
            have HYS := Lib.hid (show ys ++ withL (xs.drop (k + 1)) n true = withL xs n false by rw [← HYS0.out, WA.out, if_neg (by simp), if_neg (by simp [c2])]; simp)
            clear c2
            go_wp2
            go_roundw
            case rel => exact ⟨k + 1, m, ys, true, a', c', rfl, by go_num, rfl, HYM.out, by omega, by omega, HYS.out, HO.out, HB.out⟩
            case measure => simp [intOf] <;> omega
          · have d2 : (xs[k] != n) = true := by simpa using c2
            have HYS := Lib.hid (show (ys ++ [xs[k]]) ++ withL (xs.drop (k + 1)) n true = withL xs n false by rw [← HYS0.out, WA.out, if_neg (by simp), if_pos c2]; simp)
            clear c2
            go_wp2_with (at_builtin; refine append_one_at rfl _ _ 25 rfl w.heap.size 2 (.int .i64 0) 1 8 Try.underlying25 info_int rfl (by decide) _ (m) _ rfl HO.out [.int .i64 xs[k]] rfl (by simp [Value.oneCell']) wr.heap.size rfl rfl (by omega) (by decide) (by omega) ?_)
            intro a8 c8 w8 ho8 hg8 hb8 _
            have HO8 := Lib.hid ho8
            have HB8 := Lib.hid (HB.out.trans hb8)
            have hz8 := HB8.out.size
            clear ho8 hg8 hb8
            go_wp2
            go_roundw
            case rel => exact ⟨k + 1, m + 1, ys ++ [xs[k]], true, a8, c8, rfl, by go_num, rfl, by simp [HYM.out], by omega, by omega, HYS.out, by have := HO8.out; simpa using this, HB8.out⟩
            case measure => simp [intOf] <;> omega
      · have c2 : ¬ xs[k] = n := by omega
        have d2 : (xs[k] != n) = true := by simpa using c2
        have HYS := Lib.hid (show (ys ++ [xs[k]]) ++ withL (xs.drop (k + 1)) n d = withL xs n false by rw [← HYS0.out, WA.out, if_neg (fun h => c1 h.2), if_pos c2]; simp [c1])
        clear c2
        cases d
        · skip
          go_wp2_with (at_builtin; refine append_one_at rfl _ _ 25 rfl w.heap.size 2 (.int .i64 0) 1 8 Try.underlying25 info_int rfl (by decide) _ (m) _ rfl HO.out [.int .i64 xs[k]] rfl (by simp [Value.oneCell']) wr.heap.size rfl rfl (by omega) (by decide) (by omega) ?_)
          intro a8 c8 w8 ho8 hg8 hb8 _
          have HO8 := Lib.hid ho8
          have HB8 := Lib.hid (HB.out.trans hb8)
          have hz8 := HB8.out.size
          clear ho8 hg8 hb8
          go_wp2
          go_roundw
          case rel => exact ⟨k + 1, m + 1, ys ++ [xs[k]], false, a8, c8, rfl, by go_num, rfl, by simp [HYM.out], by omega, by omega, HYS.out, by have := HO8.out; simpa using this, HB8.out⟩
          case measure => simp [intOf] <;> omega
        · skip
          go_wp2_with (at_builtin; refine append_one_at rfl _ _ 25 rfl w.heap.size 2 (.int .i64 0) 1 8 Try.underlying25 info_int rfl (by decide) _ (m) _ rfl HO.out [.int .i64 xs[k]] rfl (by simp [Value.oneCell']) wr.heap.size rfl rfl (by omega) (by decide) (by omega) ?_)
          intro a8 c8 w8 ho8 hg8 hb8 _
          have HO8 := Lib.hid ho8
          have HB8 := Lib.hid (HB.out.trans hb8)
          have hz8 := HB8.out.size
          clear ho8 hg8 hb8
          go_wp2
          go_roundw
          case rel => exact ⟨k + 1, m + 1, ys ++ [xs[k]], true, a8, c8, rfl, by go_num, rfl, by simp [HYM.out], by omega, by omega, HYS.out, by have := HO8.out; simpa using this, HB8.out⟩
          case measure => simp [intOf] <;> omega
    · obtain rfl : k = xs.length := by omega
      cases d
      · have HYS := Lib.hid (show ys ++ [n] = withL xs n false by rw [← HYS0.out, List.drop_length]; rfl)
        go_wp2_with (at_builtin; refine append_one_at rfl _ _ 25 rfl w.heap.size 2 (.int .i64 0) 1 8 Try.underlying25 info_int rfl (by decide) _ (m) _ rfl HO.out [.int .i64 n] rfl (by simp [Value.oneCell']) wr.heap.size rfl rfl (by omega) (by decide) (by omega) ?_)
        intro a7 c7 w7 ho7 hg7 hb7 _
        have HO7 := Lib.hid ho7
        have HB7 := Lib.hid (HB.out.trans hb7)
        have hz7 := HB7.out.size
        clear ho7 hg7 hb7
        go_wp2
        go_ret
        refine ⟨_, rfl, ?_, HB7.out⟩
        rw [← HYS.out]
        have := OwnRow.mk' HO7.out
        unfold OwnInts
        rw [List.length_append, HYM.out, List.map_append]; exact this
      · have HYS := Lib.hid (show ys = withL xs n false by rw [← HYS0.out, List.drop_length]; simp [withL])
        go_wp2
        go_ret
        refine ⟨_, rfl, ?_, HB.out⟩
        rw [← HYS.out]
        unfold OwnInts
        rw [HYM.out]; exact OwnRow.mk' HO.out

end Go.Proofs.Ytemmnjokojgjaaa
