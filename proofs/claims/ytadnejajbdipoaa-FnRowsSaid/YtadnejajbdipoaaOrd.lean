/- Contracts of OrderOfRow of both packages. -/
import Derived.Test.YtadnejajbdipoaaCompI
set_option linter.unusedSimpArgs false
set_option linter.unnecessarySimpa false
set_option linter.unusedVariables false
set_option maxRecDepth 100000
namespace Go.Proofs.Ytadnejajbdipoaa
open Go.RowKit

set_option maxHeartbeats 400000 in
theorem l00Own_any (v : Value) (xs : List Int) (w : World) (h : Ints w v xs) (hs : xs.length ≤ 1048576) :
    Calls Try.prog 75 #[v] w fun e w' => ∃ v', e = .returned v' ∧ OwnInts w.heap.size w'.heap.size w' v' xs ∧ Below w.heap.size w w' := by
  obtain ⟨a, ca, rfl, hca, hcm, _⟩ := id h
  go_enter Try.func75, Try.ntmps75
  go_wp2_with (at_builtin; refine append_all rfl _ _ 24 rfl w.heap.size 2 _ 1 8 Try.underlying24 info_int rfl (by decide) (.slice (some ⟨w.heap.size, 0, none⟩) 0 0) 0 [] rfl (owns_empty w 2 1 _ (Nat.le_refl _)) (.slice a xs.length ca) xs.length (xs.map (Value.int .i64)) rfl (Ints.mono h (by (repeat (first | with_reducible exact Below.refl _ _ | with_reducible exact hbw | (with_reducible refine Below.setCell ?_ ?_ _; rotate_left; · first | exact Nat.le_refl _ | omega | (simp; done) | (simp; omega)) | (with_reducible refine Below.alloc ?_ ?_ _; rotate_left; · first | exact Nat.le_refl _ | omega | (simp; done) | (simp; omega)) | with_reducible refine below_drewN ?_ _ | with_reducible refine Below.drew ?_)))) (by simp) (ints_one xs) (by omega) (by decide) (by simp) ?_)
  intro a' c' w1 ho hg hb
  go_wp2
  go_ret
  exact ⟨_, rfl, OwnInts.mk' (by simpa using ho), Below.trans (by (repeat (first | with_reducible exact Below.refl _ _ | with_reducible exact hbw | (with_reducible refine Below.setCell ?_ ?_ _; rotate_left; · first | exact Nat.le_refl _ | omega | (simp; done) | (simp; omega)) | (with_reducible refine Below.alloc ?_ ?_ _; rotate_left; · first | exact Nat.le_refl _ | omega | (simp; done) | (simp; omega)) | with_reducible refine below_drewN ?_ _ | with_reducible refine Below.drew ?_))) hb⟩

set_option maxHeartbeats 400000 in
theorem l00Same_any (v1 v2 : Value) (xs ys : List Int) (w : World) (h1 : Ints w v1 xs) (h2 : Ints w v2 ys) :
    Calls Try.prog 45 #[v1, v2] w fun e w' => e = .returned (.bool (decide (xs = ys))) ∧ Q w w' := by
  obtain ⟨a, ca, rfl, hca, hcm, _⟩ := id h1
  obtain ⟨b, cb, rfl, _, _, _⟩ := id h2
  by_cases hl : xs.length = ys.length
  · have hm : xs.length ≤ maxLen := by omega
    clear hca hcm
    unfold maxLen at hm
    have hl1 : ((xs.length : Int) != (ys.length : Int)) = false := by rw [hl]; simp
    have HL := Lib.hid hl; clear hl
    go_enter Try.func45, Try.ntmps45
    go_wp2
    go_loopw [5] (fun i wr => ∃ k : Nat, k ≤ xs.length ∧ i = .int .i64 k ∧ xs.take k = ys.take k ∧ Q w wr) (fun i _ => xs.length - (intOf i).toNat)
    case atStart => exact ⟨0, Nat.zero_le _, rfl, by simp, Q.refl _⟩
    case round =>
      obtain ⟨k, hk, rfl, ht, hq⟩ := hrel
      have HT := Lib.hid ht; clear ht
      by_cases hlt : k < xs.length
      · have hk2 : k < ys.length := by rw [← HL.out]; exact hlt
        obtain ⟨b1, o1, rfl, c1⟩ := (h1.q hq).cells (by simp; omega)
        obtain ⟨b2, o2, rfl, c2⟩ := (h2.q hq).cells (by simp; omega)
        have d1 : wr.cell? ⟨b1, o1 + k, none⟩ = some (.int .i64 xs[k]) := c1 k _ (by simp [hlt])
        have d2 : wr.cell? ⟨b2, o2 + k, none⟩ = some (.int .i64 ys[k]) := c2 k _ (by simp [hk2])
        clear c1 c2
        by_cases he : xs[k] = ys[k]
        · have e0 : (xs[k] != ys[k]) = false := by simpa using he
          have HE := Lib.hid e0; clear he
          go_wp2
          go_quiet (fail)
          go_wp2
          go_roundw
          case rel => exact ⟨k + 1, by omega, by go_num, take_step hlt hk2 HT.out HE.out, hq.drewN _⟩
          case measure => simp [intOf]; omega
        · have e0 : (xs[k] != ys[k]) = true := by simpa using he
          have HE := Lib.hid e0; clear he
          go_wp2
          go_quiet (fail)
          go_wp2
          go_ret
          exact ⟨ret_bool (by simpa using ne_of_get hlt hk2 HE.out), hq.drewN _⟩
      · go_wp2
        go_ret
        exact ⟨ret_bool (by simpa using eq_of_take HL.out hlt HT.out), hq⟩
  · have hl1 : ((xs.length : Int) != (ys.length : Int)) = true := by simp; omega
    have hne : xs ≠ ys := fun e => hl (by rw [e])
    clear hl
    go_enter Try.func45, Try.ntmps45
    go_wp2
    go_ret
    exact ⟨ret_bool (by simpa using hne), Q.refl _⟩

theorem ord_c {xs : List Int} : (RowOk xs → ordC xs = 0) ∧ (¬ RowOk xs → ordC xs = 1) := ⟨fun h => if_pos h, fun h => if_neg h⟩

set_option maxHeartbeats 1000000 in
theorem implOrderOfRow_any (v : Value) (xs : List Int) (w : World) (h : RdInts w v xs) (ok : ∀ x ∈ xs, I64 x) (hs : xs.length ≤ 1048576) :
    Calls Try.prog 30 #[v] w fun e w' => e = .returned (.tuple #[.int .i64 (ordV xs), .int .i64 (ordC xs)]) ∧ Below w.heap.size w w' := by
  obtain ⟨a1, ca, rfl, _, _, _⟩ := id h
  by_cases g : RowOk xs
  rotate_left
  · rw [ord_no g, ord_c.2 g]
    have G := Lib.hid (rowB_no g); clear g
    go_enter Try.func30, Try.ntmps30
    go_wp2_with fail
    refine (implValidRow_any _ xs _ h ok hs).mono ?_
    rw [G.out]
    rintro e w1 ⟨rfl, hb1⟩
    go_wp2
    go_ret2
    exact ⟨rfl, hb1⟩
  · obtain ⟨K, k1, k2, k3, k4⟩ := ord_spec g
    rw [k1, ord_c.1 g]
    have hst := g.stage
    unfold stage at hst
    have HM := Lib.hid g.mem
    have G := Lib.hid (rowB_yes g); have K2 := Lib.hid k2; have K3 := Lib.hid k3; have HS := Lib.hid hst; clear g k1 k2 k3 hst
    go_enter Try.func30, Try.ntmps30
    go_wp2_with fail
    refine (implValidRow_any _ xs _ h ok hs).mono ?_
    rw [G.out]
    rintro e w1 ⟨rfl, hb1⟩
    have HB1 := Lib.hid hb1; have HI1 := Lib.hid (Ints.mono h hb1)
    clear hb1
    go_wp2_with fail
    go_loopw [5, 4] (fun nv n wr => ∃ (k : Nat), k ≤ K ∧ n = .int .i64 ((k : Int) + 1) ∧ Ints wr nv (pw xs k) ∧ Below w.heap.size w wr) (fun _ n _ => K + 1 - (intOf n).toNat)
    case atStart => exact ⟨0, Nat.zero_le _, by go_num, HI1.out, HB1.out⟩
    case round =>
      obtain ⟨k, hk, rfl, hi, hb⟩ := hrel
      have HI := Lib.hid hi
      obtain ⟨an, cn, rfl, _, _, _⟩ := hi
      have HB := Lib.hid hb; clear hb
      go_wp2_with fail
      refine (sizeI_any _ _ _ _).mono ?_
      rintro e w3 ⟨rfl, rfl⟩
      go_wp2_with fail
      refine (rounds_any xs.length _ (by have := HS.out; omega)).mono ?_
      rintro e w2 ⟨v2, rfl, ho2, hb2⟩
      obtain ⟨a2, c2, rfl⟩ := owns_slice ho2
      have hi2 : Ints w2 (.slice a2 xs.length c2) (rounds xs.length) := by
        have := Ints.of_owns (zs := rounds xs.length) (by rw [rounds_len]; exact ho2)
        exact this
      have HI2 := Lib.hid hi2; have HIn := Lib.hid (Ints.mono HI.out hb2); have HB2 := Lib.hid (HB.out.trans (hb2.mono HB.out.size))
      clear ho2 hb2 hi2
      go_wp2_with fail
      refine (equalInts_any _ _ _ _ _ HIn.out HI2.out).mono ?_
      rintro e w5 ⟨rfl, hq5⟩
      by_cases he : pw xs k = rounds xs.length
      · have hkK : k = K := Nat.le_antisymm hk (Nat.le_of_not_lt fun hlt => K3.out k hlt he)
        subst hkK
        have de : decide (pw xs k = rounds xs.length) = true := by simpa using he
        rw [de]
        clear de he
        go_wp2
        go_ret2
        exact ⟨rfl, HB2.out.trans (hq5.below _)⟩
      · have hkK : k < K := Nat.lt_of_le_of_ne hk fun e => he (by rw [e]; exact K2.out)
        have de : decide (pw xs k = rounds xs.length) = false := by simpa using he
        rw [de]
        have w1' : IntKind.i64.wrap ((k : Int) + 1 + 1) = (k : Int) + 1 + 1 := IntWalk.i64_in _ (by omega)
        have hb5 := hq5.below w2.heap.size
        have hB5 := HB2.out.trans (hb5.mono HB2.out.size)
        clear de he
        go_wp2_with fail
        refine (compose_any _ _ (pw xs k) xs _ (Ints.mono HIn.out hb5) (Ints.mono h hB5) (by rw [pw_len]; exact HM.out) (by have := HS.out; omega)).mono ?_
        rintro e w6 ⟨v6, rfl, ho6, hb6⟩
        obtain ⟨a6, c6, rfl⟩ := ho6.form
        have HI6 := Lib.hid (show Ints w6 _ (pw xs (k + 1)) from ho6.rd); have HB6 := Lib.hid (hB5.trans (hb6.mono hB5.size))
        clear ho6 hb6 hb5 hq5 hB5
        go_wp2
        go_roundw
        case rel => exact ⟨k + 1, by omega, by go_num, HI6.out, HB6.out⟩
        case measure => simp [intOf] <;> omega


end Go.Proofs.Ytadnejajbdipoaa
