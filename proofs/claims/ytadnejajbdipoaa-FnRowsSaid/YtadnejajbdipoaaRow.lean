/- Contracts of l27Row and ValidRow of both packages. -/
import Derived.Test.YtadnejajbdipoaaHas
import Derived.Test.YtadnejajbdipoaaClI
import Derived.Test.YtadnejajbdipoaaSortI
import Derived.Test.YtadnejajbdipoaaRowL
set_option linter.unusedSimpArgs false
set_option linter.unnecessarySimpa false
set_option linter.unusedVariables false
set_option maxRecDepth 100000
namespace Go.Proofs.Ytadnejajbdipoaa
open Go.RowKit

theorem ints_take {w : World} {a : Option Addr} {ca : Nat} {xs : List Int} (h : Ints w (.slice a xs.length ca) xs) {k : Nat} (hk : k ≤ xs.length) : Ints w (.slice a k ca) (xs.take k) := by
  obtain ⟨a', c', e, h1, h2, h3⟩ := h
  simp only [Value.slice.injEq] at e
  obtain ⟨rfl, _, rfl⟩ := e
  refine ⟨_, _, by rw [List.length_take, Nat.min_eq_left hk], by rw [List.length_take]; omega, h2, fun j u hu => h3 j u ?_⟩
  rw [List.map_take, List.getElem?_take] at hu
  split at hu
  · exact hu
  · cases hu

set_option maxHeartbeats 1000000 in
theorem l27Row_any (v : Value) (xs : List Int) (w : World) (h : Ints w v xs) :
    Calls Try.prog 38 #[v] w fun e w' => e = .returned (.bool (rowB xs)) ∧ Q w w' := by
  obtain ⟨a, ca, rfl, hca, hcm, _⟩ := id h
  have hm : xs.length ≤ maxLen := by omega
  clear hcm
  unfold maxLen at hm
  go_enter Try.func38, Try.ntmps38
  go_wp2_with fail
  go_loopw [4] (fun i wr => ∃ k : Nat, k ≤ xs.length ∧ i = .int .i64 k ∧ (∀ i, i < k → RowAt xs i) ∧ Q w wr) (fun i _ => xs.length - (intOf i).toNat)
  case atStart => exact ⟨0, Nat.zero_le _, rfl, by intro i h; omega, Q.refl _⟩
  case round =>
    obtain ⟨k, hk, rfl, ht, hq⟩ := hrel
    have HT := Lib.hid ht; clear ht
    by_cases hlt : k < xs.length
    · have hT := ints_take (h.q hq) hk
      have HTK := Lib.hid hT
      obtain ⟨b1, o1, rfl, c1⟩ := (h.q hq).cells (by simp; omega)
      have d1 : wr.cell? ⟨b1, o1 + k, none⟩ = some (.int .i64 xs[k]) := c1 k _ (by simp [hlt])
      have kc : (k : Int) ≤ (ca : Int) := by omega
      have k0 : (0 : Int) ≤ (k : Int) := by omega
      have kz : ((k : Int)).toNat = k := by omega
      clear c1 hT
      by_cases hin : 1 ≤ xs[k] ∧ xs[k] ≤ (xs.length : Int)
      · by_cases hh : xs[k] ∈ xs.take k
        · have HI := Lib.hid (yesB hin)
          have HH := Lib.hid hh
          have HX := Lib.hid (show ¬ RowOk xs from fun h => (rowAt_all.2 ⟨h.mem, h.nodup⟩ k hlt hlt).2 hh)
          have dm : decide (xs[k] ∈ xs.take k) = true := by simpa using hh
          have DM := Lib.hid dm
          clear hin hh dm
          go_wp2_with fail
          go_quiet (first | (go_at_call 50; exact Calls.quiet_of_same (l00In_any true _ _ _ _ HI.out)) | (go_at_call 66; exact quiet_q (l00HasB_any true _ (xs.take k) _ _ (HTK.out.q ⟨_, rfl⟩) DM.out.symm)))
          go_wp2
          go_ret
          exact ⟨ret_bool (finRow (by simpa using HX.out)), hq.drewN _⟩
        · have HI := Lib.hid (yesB hin)
          have HN := Lib.hid hin
          have HH := Lib.hid hh
          have dm : decide (xs[k] ∈ xs.take k) = false := by simpa using hh
          have DM := Lib.hid dm
          clear hin hh dm
          go_wp2_with fail
          go_quiet (first | (go_at_call 50; exact Calls.quiet_of_same (l00In_any true _ _ _ _ HI.out)) | (go_at_call 66; exact quiet_q (l00HasB_any false _ (xs.take k) _ _ (HTK.out.q ⟨_, rfl⟩) DM.out.symm)))
          go_wp2
          go_roundw
          case rel => exact ⟨k + 1, by omega, by go_num, rowAt_step HT.out (fun _ => ⟨HN.out, HH.out⟩), hq.drewN _⟩
          case measure => simp [intOf] <;> omega
      · have HI := Lib.hid (noB hin)
        have HX := Lib.hid (show ¬ RowOk xs from fun h => hin (h.mem _ (List.getElem_mem hlt)))
        clear hin
        go_wp2_with fail
        go_quiet ((go_at_call 50; exact Calls.quiet_of_same (l00In_any false _ _ _ _ HI.out)))
        go_wp2
        go_ret
        exact ⟨ret_bool (finRow (by simpa using HX.out)), hq.drewN _⟩
    · have HA := Lib.hid (rowAt_all.1 (fun i hi => HT.out i (by omega)))
      by_cases hs : stage xs.length
      · have HS := Lib.hid (yesB hs)
        have HX := Lib.hid (show RowOk xs from ⟨hs, HA.out.1, HA.out.2⟩)
        clear hs
        go_wp2_with fail
        refine (l27Stage_any true _ _ HS.out).mono ?_
        rintro e w1 ⟨rfl, rfl⟩
        go_wp2
        go_ret
        exact ⟨ret_bool (finRow (by simpa using HX.out)), hq⟩
      · have HS := Lib.hid (noB hs)
        have HX := Lib.hid (show ¬ RowOk xs from fun h => hs h.stage)
        clear hs
        go_wp2_with fail
        refine (l27Stage_any false _ _ HS.out).mono ?_
        rintro e w1 ⟨rfl, rfl⟩
        go_wp2
        go_ret
        exact ⟨ret_bool (finRow (by simpa using HX.out)), hq⟩

set_option maxHeartbeats 1000000 in
theorem implValidRow_any (v : Value) (xs : List Int) (w : World) (h : RdInts w v xs) (_ : ∀ x ∈ xs, I64 x) (hs : xs.length ≤ 1048576) :
    Calls Try.prog 40 #[v] w fun e w' => e = .returned (.bool (rowB xs)) ∧ Below w.heap.size w w' := by
  obtain ⟨a, ca, rfl, hca, hcm, _⟩ := id h
  clear hca hcm
  go_enter Try.func40, Try.ntmps40
  go_wp2_with fail
  refine (cloneInts_any _ xs _ h hs).mono ?_
  rintro e w1 ⟨v1, rfl, ho1, hb1⟩
  obtain ⟨a1, c1, rfl⟩ := ho1.form
  have hz1 := hb1.size
  go_wp2_with fail
  refine (sortInts_any _ w.heap.size xs _ ho1.1 (by omega)).mono ?_
  rintro e w2 ⟨rfl, ho2, hg2⟩
  have hb2 : Below w.heap.size w w2 := hb1.grown hg2 hz1 (fun q hq => (ho1.1.lt q hq).1)
  have hz2 := hb2.size
  clear hg2
  have hin2 : Ints w2 (.slice a1 xs.length c1) (sortI xs) := by
    have := Ints.of_owns (zs := sortI xs) (by rw [sortI_len]; exact ho2)
    exact this
  have HI2 := Lib.hid hin2; have HB2 := Lib.hid hb2
  clear ho1 ho2 hb1 hb2 hin2
  go_wp2_with fail
  refine (sizeI_any _ _ _ _).mono ?_
  rintro e w3 ⟨rfl, rfl⟩
  by_cases hst : stage xs.length
  · have HS := Lib.hid (yesB hst)
    have HST := Lib.hid hst
    have hl : xs.length ≤ 1000 := by unfold stage at hst; omega
    clear hst
    go_wp2_with fail
    refine (isStage_any true _ _ HS.out).mono ?_
    rintro e w4 ⟨rfl, rfl⟩
    go_wp2_with fail
    refine (sizeI_any _ _ _ _).mono ?_
    rintro e w5 ⟨rfl, rfl⟩
    go_wp2_with fail
    refine (rounds_any xs.length _ hl).mono ?_
    rintro e w6 ⟨v6, rfl, ho6, hb6⟩
    obtain ⟨a6, c6, rfl⟩ := owns_slice ho6
    have hi6 : Ints w6 (.slice a6 xs.length c6) (rounds xs.length) := by
      have := Ints.of_owns (zs := rounds xs.length) (by rw [rounds_len]; exact ho6)
      exact this
    have HI6 := Lib.hid hi6; have HI7 := Lib.hid (Ints.mono HI2.out hb6); have HB6 := Lib.hid (HB2.out.trans (hb6.mono hz2))
    clear ho6 hb6 hi6
    go_wp2_with fail
    refine (equalInts_any _ _ _ _ _ HI7.out HI6.out).mono ?_
    rintro e w7 ⟨rfl, hq7⟩
    have HX := Lib.hid (show decide (sortI xs = rounds xs.length) = rowB xs from finRow ⟨fun h => by simpa using (row_sorted xs).2 ⟨h.mem, h.nodup⟩, fun h => by have := (row_sorted xs).1 (by simpa using h); exact ⟨HST.out, this.1, this.2⟩⟩)
    go_wp2
    go_ret
    exact ⟨ret_bool HX.out, HB6.out.trans (hq7.below _)⟩
  · have HS := Lib.hid (noB hst)
    have HX := Lib.hid (show ¬ RowOk xs from fun h => hst h.stage)
    clear hst
    go_wp2_with fail
    refine (isStage_any false _ _ HS.out).mono ?_
    rintro e w4 ⟨rfl, rfl⟩
    go_wp2
    go_ret
    exact ⟨ret_bool (finRow (by simpa using HX.out)), HB2.out⟩

end Go.Proofs.Ytadnejajbdipoaa
