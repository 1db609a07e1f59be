/- The program's reading of a list of numbers. Contract of ReadList. -/
import Derived.Test.YteaijhmgfddjiaaDoorReadListS
import Derived.Test.YteaijhmgfddjiaaDoorReadDec
set_option linter.unusedSimpArgs false
set_option linter.unnecessarySimpa false
set_option linter.unusedVariables false
set_option maxRecDepth 100000
namespace Go.Proofs.YteaijhmgfddjiaaDoor
open Go.RowKit

theorem ReadDecimalP_any (p : List UInt8) (w : World) (hs : (bytesB p).size ≤ 1048576) (hL : Lay w) :
    Calls Tryd.prog 34 #[.string (bytesB p)] w fun e w' => e = .returned (.tuple #[.int .i64 (numV p), .bool (numOk p)]) ∧ Below w.heap.size w w' := by
  have := ReadDecimal_any (bytesB p) w hs hL
  rwa [bytesB_list] at this

set_option maxHeartbeats 4000000 in
theorem implReadList_any (s : ByteArray) (w : World) (hs : s.size ≤ 1048576) (hL : Lay w) :
    Calls Tryd.prog 25 #[.string s] w fun e w' => ∃ v, e = .returned (.tuple #[v, .bool (rlB s)]) ∧ Ints w' v (rlV s) ∧ Below w.heap.size w w' := by
  by_cases hd : s = bytesB [45]
  · have HR := Lib.hid (rl_dash hd)
    rw [dash_eq] at hd
    subst hd
    go_enter Tryd.func25, Tryd.ntmps25
    go_wp2
    go_ret2
    refine ⟨_, by rw [HR.out.1]; rfl, by rw [HR.out.2]; exact Sl.of_owns (owns_nil w 2 1 0), Below.refl _ _⟩
  have d0 := dash_no hd
  have HD := Lib.hid hd
  have hne := splitC_ne 44 s.data.toList
  have hlen := splitC_len_le 44 s.data.toList
  have hle : s.data.toList.length = s.size := by cases s; rfl
  obtain ⟨ps, hps⟩ : ∃ ps, ps = pieces s := ⟨_, rfl⟩
  have HPS := Lib.hid hps
  have hsp := split_any s 44 w hs hL
  rw [show splitC 44 s.data.toList = ps from hps.symm] at hsp hne hlen
  have HSP := Lib.hid hsp
  have HSZ := Lib.hid (show ∀ p ∈ ps, (bytesB p).size ≤ 1048576 from fun p hp => piece_size (by rw [hps] at hp; exact hp) hs)
  have hmx : ps.length ≤ 1048577 := by omega
  have HLY := Lib.hid hL
  have HLA := Lib.hid (list_again (s := s))
  clear hsp hd hps hs hL hlen hle
  go_enter Tryd.func25, Tryd.ntmps25
  go_wp2_with fail
  refine HSP.out.mono ?_
  rintro e w1 ⟨v, rfl, hp1, hb1⟩
  have hz1 := hb1.size
  have HB1 := Lib.hid hb1
  have HL1 := Lib.hid (HLY.out.mono hb1)
  obtain ⟨g, c, rfl, hcc, ht⟩ := hp1
  have HT := Lib.hid ht
  clear ht hb1
  go_wp2_with fail
  go_loopw [4, 6, 7, 8, 14] (fun o _ _ _ i wr => ∃ (k : Nat) (a' : Option Addr) (c' : Nat), k ≤ ps.length ∧ i = .int .i64 (k : Int) ∧ o = .slice a' k c' ∧ wr.ownsRow w1.heap.size 2 1 (.slice a' k c') k ((numsTo ps k).map (Value.int .i64)) ∧ Below w1.heap.size w1 wr) (fun _ _ _ _ i _ => ps.length - (intOf i).toNat)
  case atStart => exact ⟨0, none, 0, Nat.zero_le _, by go_num, rfl, owns_nil w1 2 1 _, Below.refl _ _⟩
  case round =>
    obtain ⟨k, a', c', hk, rfl, rfl, ho, hb⟩ := hrel
    have hz := hb.size
    have HB := Lib.hid hb; have HO := Lib.hid ho
    have HBW := Lib.hid (HB1.out.trans (hb.mono hz1))
    clear ho
    by_cases hlt : k < ps.length
    · have e1 : wr.cell? ⟨g, k, none⟩ = some (.string (bytesB ps[k])) := cellB hb (HT.out k hlt)
      have HS1 := Lib.hid (HSZ.out _ (List.getElem_mem hlt))
      have HST := Lib.hid (numsTo_step hlt)
      clear hb
      go_wp2_with fail
      refine (ReadDecimalP_any _ _ HS1.out (HL1.out.mono HB.out)).mono ?_
      rintro e w2 ⟨rfl, hb2⟩
      have hz2 := hb2.size
      have HO2 := Lib.hid (owns_mono HO.out hb2)
      have HB2 := Lib.hid (HB.out.trans (hb2.mono hz))
      clear hb2 HO
      go_wp2_with (at_builtin; refine append_one_at rfl _ _ 52 rfl w1.heap.size 2 (.int .i64 0) 1 8 Tryd.underlying52 info_int rfl (by decide) _ k _ rfl HO2.out [.int .i64 (numV ps[k])] rfl (by simp [Value.oneCell']) w2.heap.size rfl rfl (by omega) (by decide) (by omega) ?_)
      intro a7 c7 w7 ho7 hg7 hb7 _
      have HN7 := Lib.hid (show w7.ownsRow w1.heap.size 2 1 (.slice a7 (k + 1) c7) (k + 1) ((numsTo ps (k + 1)).map (Value.int .i64)) from by rw [HST.out, List.map_append]; exact ho7)
      have HB7 := Lib.hid (HB2.out.trans hb7)
      clear ho7 hg7 hb7 HO2
      go_wp2
      go_roundw
      case rel => exact ⟨k + 1, a7, c7, by omega, by go_num, rfl, HN7.out, HB7.out⟩
      case measure => simp [intOf] <;> omega
    · obtain rfl : k = ps.length := by omega
      have HI := Lib.hid (show Ints wr (.slice a' ps.length c') (ps.map numV) from by
        rw [← numsTo_all]
        have := Sl.of_owns HO.out
        unfold Ints
        rwa [numsTo_len ps (Nat.le_refl _)])
      have HV := Lib.hid (show ∀ x ∈ ps.map numV, I64 x from fun x hx => by
        obtain ⟨p, _, rfl⟩ := List.mem_map.1 hx
        exact num_i64 p)
      have HM := Lib.hid (show (ps.map numV).length ≤ 1048577 by rw [List.length_map]; exact hmx)
      go_wp2_with fail
      refine (ListText_any _ _ _ HI.out (by have := HM.out; omega) HV.out (HL1.out.mono HB.out).tab).mono ?_
      rintro e w2 ⟨rfl, hb2⟩
      have HB2 := Lib.hid (HB1.out.trans ((HB.out.trans (hb2.mono hz)).mono hz1))
      have HI2 := Lib.hid (Ints.mono HI.out hb2)
      clear hb2
      by_cases hn : numsB (pieces s) = true
      · have he : listT (ps.map numV) = s := by rw [HPS.out]; exact HLA.out.2 hn
        have HR := Lib.hid (rl_yes HD.out hn)
        have HIV := Lib.hid (show Ints w2 (.slice a' ps.length c') (rlV s) by rw [HR.out.2, ← HPS.out]; exact HI2.out)
        clear hn
        rw [he]
        go_wp2
        go_ret2
        exact ⟨_, by rw [HR.out.1]; rfl, HIV.out, HB2.out⟩
      · have he : ((listT (ps.map numV)).toList == s.toList) = false := by
          rw [strEq]
          exact decide_eq_false fun e => hn (HLA.out.1 (by rw [← HPS.out]; exact e))
        have HR := Lib.hid (rl_no HD.out (by simpa using hn))
        clear hn
        go_wp2
        go_ret2
        exact ⟨_, by rw [HR.out.1]; rfl, by rw [HR.out.2]; exact Sl.of_owns (owns_nil w2 2 1 0), HB2.out⟩

end Go.Proofs.YteaijhmgfddjiaaDoor
