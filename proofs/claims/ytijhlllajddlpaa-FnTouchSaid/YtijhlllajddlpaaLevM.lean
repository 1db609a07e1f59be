/- Contracts of the laws' helpers over slices of Lever: equality, marks; slices.Equal. -/
import Derived.Test.YtijhlllajddlpaaLev
set_option linter.unusedSimpArgs false
set_option linter.unnecessarySimpa false
set_option linter.unusedVariables false
namespace Go.Proofs.Ytijhlllajddlpaa
open Go.RowKit

set_option maxHeartbeats 400000 in
theorem eqLevs_any (v1 v2 : Value) (xs ys : List Lev) (w : World) (h1 : Levs w v1 xs) (h2 : Levs w v2 ys) :
    Calls Try.prog 24 #[v1, v2] w fun e w' => e = .returned (.bool (decide (xs = ys))) ∧ Below w.heap.size w w' := by
  obtain ⟨a, ca, rfl, hca, hcm, _⟩ := id h1
  obtain ⟨b, cb, rfl, _, _, _⟩ := id h2
  by_cases hl : xs.length = ys.length
  · have hm : xs.length ≤ maxLen := by omega
    clear hca hcm
    unfold maxLen at hm
    have hl1 : ((xs.length : Int) != (ys.length : Int)) = false := by rw [hl]; simp
    have HL := Lib.hid hl; clear hl
    go_enter Try.func24, Try.ntmps24
    go_wp2
    go_loopw [5] (fun i wr => ∃ k : Nat, k ≤ xs.length ∧ i = .int .i64 k ∧ xs.take k = ys.take k ∧ Below w.heap.size w wr) (fun i _ => xs.length - (intOf i).toNat)
    case atStart => exact ⟨0, Nat.zero_le _, rfl, by simp, Below.refl _ _⟩
    case round =>
      obtain ⟨k, hk, rfl, ht, hb⟩ := hrel
      have HT := Lib.hid ht; clear ht
      by_cases hlt : k < xs.length
      · have hk2 : k < ys.length := by rw [← HL.out]; exact hlt
        obtain ⟨b1, o1, rfl, hB1, c0, c1⟩ := (h1.mono hb).at hlt
        obtain ⟨b2, o2, rfl, hB2, d0, d1⟩ := (h2.mono hb).at hk2

        go_wp2
        refine wp_region_ord [(0, true), (1, true), (2, true), (3, true), (4, true), (5, true), (6, true), (7, true), (8, false), (9, true)] (none) (by kernel_rfl) (by kernel_rfl) ?_
        (repeat (with_reducible refine wpOrd_soft (fun K hK => ?_); simp only [List.getElem?_toArray, List.getElem?_cons_zero, List.getElem?_cons_succ]; first | (go_simp; refine hK _ ?_) | (simp only [undef]; go_simp; refine hK _ ?_); clear hK K))
        (with_reducible refine wpOrd_hard ?_; simp only [List.getElem?_toArray, List.getElem?_cons_zero, List.getElem?_cons_succ])
        go_wp2_with fail
        refine (eqLev_any xs[k] ys[k] _).mono ?_
        rintro e w2 ⟨rfl, hb2⟩
        have hbr : Below wr.heap.size wr w2 := undrew hb2
        have hb3 : Below w.heap.size w w2 := hb.trans (hbr.mono hb.size)
        by_cases he : xs[k] = ys[k]
        rotate_left
        all_goals
          have HE := Lib.hid he
          first | have hd : decide (xs[k] = ys[k]) = false := by simpa using he
                | have hd : decide (xs[k] = ys[k]) = true := by simpa using he
          clear he
          go_wp2
          refine ⟨grown_of_below hbr, ?_⟩
          (repeat (with_reducible refine wpOrd_soft (fun K hK => ?_); simp only [List.getElem?_toArray, List.getElem?_cons_zero, List.getElem?_cons_succ]; first | (go_simp; refine hK _ ?_) | (simp only [undef]; go_simp; refine hK _ ?_); clear hK K))
          (with_reducible refine wpOrd_nil ?_); refine NoPanic.normal ?_
        · go_wp2
          go_ret
          exact ⟨ret_bool (by simpa using ne_of_get hlt hk2 (by simpa using HE.out)), hb3⟩
        · go_wp2
          go_roundw
          case rel => exact ⟨k + 1, by omega, by go_num, take_step hlt hk2 HT.out (by simpa using HE.out), hb3⟩
          case measure => simp [intOf]; omega
      · go_wp2
        go_ret
        exact ⟨ret_bool (by simpa using eq_of_take HL.out hlt HT.out), hb⟩
  · have hl1 : ((xs.length : Int) != (ys.length : Int)) = true := by simp; omega
    have hne : xs ≠ ys := fun e => hl (by rw [e])
    clear hl
    go_enter Try.func24, Try.ntmps24
    go_wp2
    go_ret
    exact ⟨ret_bool (by simpa using hne), Below.refl _ _⟩

end Go.Proofs.Ytijhlllajddlpaa
