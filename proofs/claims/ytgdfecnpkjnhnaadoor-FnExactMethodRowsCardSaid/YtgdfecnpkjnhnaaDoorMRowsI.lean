/- Contract of MethodRows of the program. -/
import Derived.Test.YtgdfecnpkjnhnaaDoorMRowsL
import Derived.Test.YtgdfecnpkjnhnaaDoorMethI
import Derived.Test.YtgdfecnpkjnhnaaDoorApply
set_option linter.unusedSimpArgs false
set_option linter.unnecessarySimpa false
set_option linter.unusedVariables false
set_option maxRecDepth 100000
namespace Go.Proofs.YtgdfecnpkjnhnaaDoor
open Go.RowKit

theorem slice_one (a : Option Addr) (n c : Nat) : ∀ u ∈ [Value.slice a n c], u.oneCell' = true := by
  intro u hu; rw [List.mem_singleton.1 hu]; simp [Value.oneCell']

set_option maxHeartbeats 4000000 in
theorem implMethodRows_any (s : ByteArray) (n : Int) (w : World) (hs : s.size ≤ 1048576) (hn : I64 n) (hL : MaxL w) :
    Calls Tryd.prog 18 #[.string s, .int .i64 n] w (MrR s n w) := by
  by_cases hc : mdC s n = 0
  rotate_left
  · have HC := Lib.hid hc
    have HV := Lib.hid (mr_no hc)
    have dC : (mdC s n != 0) = true := by simpa using hc
    go_enter Tryd.func18, Tryd.ntmps18
    go_wp2_with fail
    refine (implSplitMethod_any s n _ hs hn hL).mono ?_
    rintro e w1 ⟨v, rfl, ho, hb⟩
    have HB := Lib.hid hb
    clear ho hb
    go_wp2
    go_ret2
    exact ⟨_, rfl, by rw [HV.out]; exact OwnIntss.nil _ _ _, HB.out⟩
  obtain ⟨hst, hmv, hall, hlen⟩ := md_zero hc
  obtain ⟨m, rfl⟩ : ∃ m : Nat, n = (m : Int) := ⟨n.toNat, by unfold stage at hst; omega⟩
  have hm12 : 3 ≤ m ∧ m ≤ 12 := by unfold stage at hst; omega
  have HC := Lib.hid hc
  have HV := Lib.hid (mr_yes hc)
  have HMV := Lib.hid hmv
  go_enter Tryd.func18, Tryd.ntmps18
  go_wp2_with fail
  refine (implSplitMethod_any s (m : Int) _ hs hn hL).mono ?_
  rintro e w1 ⟨v, rfl, ho, hb⟩
  rw [HC.out]
  rw [HMV.out] at ho
  obtain ⟨ps, hps⟩ : ∃ ps, ps = mdL s := ⟨_, rfl⟩
  rw [← hps] at ho hall hlen
  have HPS := Lib.hid hps
  obtain ⟨a0, c0, rfl⟩ := ho.form
  have HS := Lib.hid ho.rd
  have hsm : ∀ q ∈ ps, q.length ≤ 1048576 := by rw [hps]; exact mtL_small (l := s.data.toList) (bl s hs)
  have HSM := Lib.hid hsm
  have HALL := Lib.hid (show ∀ p ∈ ps, stayB (bytesB p) (m : Int) = true from fun p hp => by rw [← ch_yes hst]; exact hall p hp)
  have HST := Lib.hid hst
  have HB := Lib.hid hb
  have hz1 := hb.size
  clear ho hb hps hsm hall hc hmv
  go_wp2_with fail
  refine (rounds_any m _ (by omega)).mono ?_
  rintro e w2 ⟨v2, rfl, ho2, hb2⟩
  obtain ⟨a2, c2, rfl⟩ := owns_slice ho2
  have HI0 := Lib.hid (show ISt w1.heap.size (w2.heap.size + 1) (w2.alloc (.cells #[.slice a2 m c2] 63)) (.slice (some ⟨w2.heap.size, 0, none⟩) 1 1) [(.slice a2 m c2, rounds m)] from ISt.one (by rw [rounds_len]; exact OwnRow.mk' ho2) hb2.size)
  have HB2 := Lib.hid (hb2.trans ((belowA w2 (.cells #[.slice a2 m c2] 63)).mono hb2.size))
  clear ho2 hb2
  go_wp2_with fail
  go_loopw [8, 9, 10, 25] (fun rv _ _ it wr => ∃ (k q : Nat) (ys : List (Value × List Int)) (a' : Option Addr) (c' : Nat), k ≤ ps.length ∧ q = k + 1 ∧ it = .int .i64 (k : Int) ∧ rv = .slice a' q c' ∧ ys.length = q ∧ ys.map Prod.snd = rowsTo m ps k ∧ ISt w1.heap.size wr.heap.size wr (.slice a' q c') ys ∧ Below w1.heap.size w1 wr) (fun _ _ _ it _ => ps.length - (intOf it).toNat)
  case atStart => exact ⟨0, 1, [(.slice a2 m c2, rounds m)], _, _, Nat.zero_le _, rfl, by go_num, rfl, rfl, by rw [rowsTo_zero]; rfl, by simpa using HI0.out, HB2.out⟩
  case round =>
    obtain ⟨k, q, ys, a', c', hk, hq, rfl, rfl, hyl, hys, hst2, hbr⟩ := hrel
    have HYS := Lib.hid hys; have HT := Lib.hid hst2; have HBR := Lib.hid hbr; have HYL := Lib.hid hyl
    have hzr := hbr.size
    have HQ := Lib.hid hq
    have hkq : k < q := by omega
    have hql : q ≤ 1000 := by omega
    clear HI0 HB2 hys
    by_cases hlt : k < ps.length
    · obtain ⟨b1, o1, rfl, c1⟩ := (HS.out.mono hbr).cells (by rw [strC_len]; omega)
      have d0 : wr.cell? ⟨b1, o1 + k, none⟩ = some (.string (bytesB ps[k])) := c1 k _ (strC_at hlt)
      obtain ⟨b2, o2, l2, q2, rfl, d1, hI⟩ := hst2.at hyl (show k < ys.length by rw [HYL.out]; exact hkq)
      have hyk : ys[k].2 = mrow m ps k := by
        have e := congrArg (fun l => l[k]?) HYS.out
        simp only [List.getElem?_map] at e
        rw [List.getElem?_eq_getElem (show k < ys.length by rw [HYL.out]; exact hkq), List.getElem?_eq_getElem (show k < (rowsTo m ps k).length by rw [rowsTo_len]; omega), rowsTo_get] at e
        simpa using e
      rw [hyk, mrow_len] at d1 hI
      have HI := Lib.hid hI
      have hpl := HSM.out _ (List.getElem_mem hlt)
      have hB := HALL.out _ (List.getElem_mem hlt)
      have HR := Lib.hid (mrow_step (m := m) hlt)
      have hml : (mrow m ps k).length = m := mrow_len m ps k
      have HML := Lib.hid hml
      clear c1 hst2 hbr hyk hI hyl hq
      have hap := applyChange_any (.slice l2 m q2) (mrow m ps k) (bytesB ps[k]) wr (by have := HI.out; exact this) (by rw [bytesB_size]; exact hpl) (by rw [hml]; exact HST.out) (by rw [hml]; exact hB)
      rw [hml, ← HR.out] at hap
      clear hml hB hpl
      go_wp2_with fail
      refine hap.mono ?_
      rintro e w3 ⟨v3, rfl, ho3, hb3⟩
      obtain ⟨a3, c3, rfl⟩ := ho3.form
      have hl3 : (mrow m ps (k + 1)).length = m := mrow_len m ps (k + 1)
      have HO3 := Lib.hid ho3
      have HB3 := Lib.hid hb3
      have hz3 := hb3.size
      have HT3 := Lib.hid (HT.out.mono hb3)
      rw [hl3] at HO3 ⊢
      clear ho3 hb3 hap
      go_wp2_with (at_builtin; refine append_one_at rfl _ _ 39 rfl w1.heap.size 63 (.slice none 0 0) 1 24 Tryd.underlying39 info_ints rfl (by decide) _ q _ rfl (by have := HT3.out.1.1; rw [HYL.out] at this; exact this) [.slice a3 m c3] rfl (slice_one _ _ _) w3.heap.size rfl rfl (by omega) (by decide) (by omega) ?_)
      intro a4 c4 w4 ho4 hg4 hb4 hat
      have HN := Lib.hid (ISt.snoc (L := wr.heap.size) (F := w3.heap.size) (x := mrow m ps (k + 1)) HT.out (Nat.le_refl _) hz3 hzr HB3.out (Nat.le_refl _) (by rw [hl3]; simpa [OwnInts, hl3] using HO3.out) hg4 (by rw [HYL.out]; exact ho4) (by
        rcases hat with h | h
        · exact .inl h
        · exact .inr ⟨_, h, by omega⟩))
      have HB4 := Lib.hid ((HBR.out.trans (HB3.out.mono hzr)).trans (hb4.mono (Nat.le_refl _)))
      clear ho4 hg4 hb4 hat
      go_wp2
      go_roundw
      case rel => exact ⟨k + 1, q + 1, ys ++ [(.slice a3 m c3, mrow m ps (k + 1))], a4, c4, by omega, by rw [HQ.out], by go_num, rfl, by simp [HYL.out], by rw [List.map_append, HYS.out, rowsTo_succ]; rfl, HN.out, HB4.out⟩
      case measure => simp [intOf] <;> omega
    · obtain rfl : k = ps.length := by omega
      have HF := Lib.hid (HB.out.trans (hbr.mono hz1))
      have HE := Lib.hid (show mrV s (m : Int) = rowsTo m ps ps.length by rw [HV.out, ← HPS.out]; simp)
      clear hbr hst2
      go_wp2
      go_ret2
      refine ⟨_, by rw [HC.out]; rfl, ?_, HF.out⟩
      rw [HE.out]
      exact OwnIntss.st.2 ⟨ys, HYS.out, HT.out.wide hz1 (Nat.le_refl _)⟩

end Go.Proofs.YtgdfecnpkjnhnaaDoor
