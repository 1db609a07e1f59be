/- Contract of l27Method and SplitMethod of the reference. -/
import Derived.Test.YtgdfecnpkjnhnaaDoorMethS
import Derived.Test.YtgdfecnpkjnhnaaDoorMethV
import Derived.Test.YtgdfecnpkjnhnaaDoorRounds
set_option linter.unusedSimpArgs false
set_option linter.unnecessarySimpa false
set_option linter.unusedVariables false
set_option maxRecDepth 100000
namespace Go.Proofs.YtgdfecnpkjnhnaaDoor
open Go.RowKit

set_option maxHeartbeats 2000000 in
theorem l27Method_any (s : ByteArray) (n : Int) (w : World) (hs : s.size ≤ 1048576) (hn : I64 n) :
    Calls Tryd.prog 26 #[.string s, .int .i64 n] w (MdR s n w) := by
  by_cases hst : stage n
  rotate_left
  · have M := Lib.hid (md_no (s := s) hst)
    go_enter Tryd.func26, Tryd.ntmps26
    go_wp2_with fail
    refine (l27Stage_any false n _ (noB hst)).mono ?_
    rintro e w1 ⟨rfl, rfl⟩
    go_wp2
    go_ret2
    exact MdR.none M.out (Below.refl _ _)
  go_enter Tryd.func26, Tryd.ntmps26
  go_wp2_with fail
  refine (l27Stage_any true n _ (yesB hst)).mono ?_
  rintro e w' ⟨rfl, hw⟩
  obtain rfl : w = w' := hw.symm
  go_wp2_with fail
  refine (l27Split_any s _ hs).mono ?_
  rintro e w1 ⟨v, b, rfl, hT, hF, hb⟩
  have HB := Lib.hid hb
  have hz := hb.size
  cases b
  · have M := Lib.hid (md_bad hst (md_hole (s := s) (n := n) (hF rfl)))
    clear hT hF hb
    go_wp2
    go_ret2
    exact MdR.none M.out HB.out
  obtain ⟨hp, hno, hne⟩ := hT rfl
  obtain ⟨ps, hps⟩ : ∃ ps, ps = mdL s := ⟨_, rfl⟩
  have h' : mtL s.data.toList = ps := hps.symm
  have HSM := Lib.hid (show ∀ q ∈ ps, q.length ≤ 1048576 by rw [hps]; exact mtL_small (l := s.data.toList) (by have e : s.data.toList.length = s.size := by { cases s; rfl }
                                                                                                               omega))
  rw [h'] at hp hne
  obtain ⟨a, c, rfl, ho⟩ := hp
  change w1.ownsRow w.heap.size 9 1 (.slice a ps.length c) ps.length (strC ps) at ho
  have HO := Lib.hid ho
  have HNE := Lib.hid hne
  have HPS := Lib.hid hps
  have hle : ps.length ≤ 9223372036854775807 := by
    rcases ho.2 with ⟨_, h0⟩ | ⟨g, cap, cur, e, _, _, hc, hm, _⟩
    · omega
    · unfold maxLen at hm; omega
  have hs1 := Sl.of_owns ho
  clear hT hF hno hne ho hps h' hb
  go_wp2_with fail
  go_loopw [8] (fun i wr => ∃ k : Nat, k ≤ ps.length ∧ i = .int .i64 (k : Int) ∧ (∀ j (hj : j < ps.length), j < k → changeB (bytesB ps[j]) n = true) ∧ Below w1.heap.size w1 wr) (fun i _ => ps.length - (intOf i).toNat)
  case atStart => exact ⟨0, Nat.zero_le _, by go_num, (fun j _ h => by omega), Below.refl _ _⟩
  case round =>
    obtain ⟨k, hk, rfl, hall, hbr⟩ := hrel
    have HA := Lib.hid hall
    have HBR := Lib.hid hbr
    have hzr := hbr.size
    clear hall
    by_cases hlt : k < ps.length
    · obtain ⟨b1, o1, rfl, c1⟩ := (hs1.mono hbr).cells (by rw [strC_len]; omega)
      have d0 : wr.cell? ⟨b1, o1 + k, none⟩ = some (.string (bytesB ps[k])) := c1 k _ (strC_at hlt)
      have hsz : (bytesB ps[k]).size ≤ 1048576 := by rw [bytesB_size]; exact HSM.out _ (List.getElem_mem hlt)
      clear c1 hbr
      cases g : changeB (bytesB ps[k]) n
      · have M := Lib.hid (md_bad (s := s) hst (.inr ⟨ps[k], by rw [← HPS.out]; exact List.getElem_mem hlt, g⟩))
        have G := Lib.hid g
        clear g
        go_wp2_with fail
        refine (specValidChange_any (bytesB ps[k]) n _ hsz hn).mono ?_
        rw [G.out]
        rintro e w2 ⟨rfl, hb2⟩
        have HB2 := Lib.hid (HB.out.trans ((HBR.out.trans (hb2.mono hzr)).mono hz))
        clear hb2
        go_wp2
        go_ret2
        exact MdR.none M.out HB2.out
      · have G := Lib.hid g
        clear g
        go_wp2_with fail
        refine (specValidChange_any (bytesB ps[k]) n _ hsz hn).mono ?_
        rw [G.out]
        rintro e w2 ⟨rfl, hb2⟩
        have HB2 := Lib.hid (HBR.out.trans (hb2.mono hzr))
        clear hb2
        go_wp2
        go_roundw
        case rel =>
          refine ⟨k + 1, by omega, by go_num, fun j hj hjk => ?_, HB2.out⟩
          by_cases e : j = k
          · subst e; exact G.out
          · exact HA.out j hj (by omega)
        case measure => simp [intOf] <;> omega
    · obtain rfl : k = ps.length := by omega
      have HBAD := Lib.hid (show ¬ mdBad s n by
        rintro (h | ⟨p, hp, hf⟩)
        · exact HNE.out (by rw [HPS.out, h])
        · rw [← HPS.out] at hp
          obtain ⟨j, hj, rfl⟩ := List.getElem_of_mem hp
          rw [HA.out j hj hj] at hf; cases hf)
      have HB2 := Lib.hid (HB.out.trans (HBR.out.mono hz))
      have HO2 := Lib.hid (owns_mono HO.out hbr)
      clear hbr
      by_cases hf : 120 < ps.length
      · have M := Lib.hid (md_full hst HBAD.out (by rw [← HPS.out]; exact hf))
        go_wp2
        go_ret2
        exact MdR.none M.out HB2.out
      · have M := Lib.hid (md_ok hst HBAD.out (by rw [← HPS.out]; exact hf))
        go_wp2
        go_ret2
        refine MdR.some M.out ?_ HB2.out
        rw [← HPS.out]
        exact HO2.out

theorem specSplitMethod_any (s : ByteArray) (n : Int) (w : World) (hs : s.size ≤ 1048576) (hn : I64 n) :
    Calls Tryd.prog 7 #[.string s, .int .i64 n] w (MdR s n w) := by
  go_enter Tryd.func7, Tryd.ntmps7
  go_wp2_with fail
  refine (l27Method_any s n _ hs hn).mono ?_
  rintro e w1 ⟨v, rfl, ho, hb⟩
  have HO := Lib.hid ho; have HB := Lib.hid hb
  clear ho hb
  go_wp2
  go_ret2
  exact ⟨v, rfl, HO.out, HB.out⟩

end Go.Proofs.YtgdfecnpkjnhnaaDoor
