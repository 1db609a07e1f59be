/- Contract of MethodRows of the reference. -/
import Derived.Test.YtgdfecnpkjnhnaaDoorMRowsL
import Derived.Test.YtgdfecnpkjnhnaaDoorMethM
import Derived.Test.YtgdfecnpkjnhnaaDoorApply
set_option linter.unusedSimpArgs false
set_option linter.unnecessarySimpa false
set_option linter.unusedVariables false
set_option maxRecDepth 100000
namespace Go.Proofs.YtgdfecnpkjnhnaaDoor
open Go.RowKit

theorem slice_oneS (a : Option Addr) (n c : Nat) : ∀ u ∈ [Value.slice a n c], u.oneCell' = true := by
  intro u hu; rw [List.mem_singleton.1 hu]; simp [Value.oneCell']
theorem blS (s : ByteArray) (hs : s.size ≤ 1048576) : s.data.toList.length ≤ 1048576 := by
  have e : s.data.toList.length = s.size := by cases s; rfl
  omega

set_option maxHeartbeats 4000000 in
theorem specMethodRows_any (s : ByteArray) (n : Int) (w : World) (hs : s.size ≤ 1048576) (hn : I64 n) :
    Calls Tryd.prog 17 #[.string s, .int .i64 n] w (MrR s n w) := by
  by_cases hc : mdC s n = 0
  rotate_left
  · have HC := Lib.hid hc
    have HV := Lib.hid (mr_no hc)
    have dC : (mdC s n != 0) = true := by simpa using hc
    go_enter Tryd.func17, Tryd.ntmps17
    go_wp2_with fail
    refine (l27Method_any s n _ hs hn).mono ?_
    rintro e w1 ⟨v, rfl, ho, hb⟩
    have HB := Lib.hid hb
    clear ho hb
    go_wp2
    go_ret2
    exact ⟨_, rfl, by rw [HV.out]; exact OwnIntss.nil _ _ _, HB.out⟩
  obtain ⟨hst, hmv, hall, hlen⟩ := md_zero hc
  obtain ⟨m, rfl⟩ : ∃ m : Nat, n = (m : Int) := ⟨n.toNat, by unfold stage at hst; omega⟩
  have hm12 : 3 ≤ m ∧ m ≤ 12 := by unfold stage at hst; omega
  have HC := Lib.hid hc
  have HV := Lib.hid (mr_yes hc)
  have HMV := Lib.hid hmv
  go_enter Tryd.func17, Tryd.ntmps17
  go_wp2_with fail
  refine (l27Method_any s (m : Int) _ hs hn).mono ?_
  rintro e w1 ⟨v, rfl, ho, hb⟩
  rw [HC.out]
  rw [HMV.out] at ho
  obtain ⟨ps, hps⟩ : ∃ ps, ps = mdL s := ⟨_, rfl⟩
  rw [← hps] at ho hall hlen
  have HPS := Lib.hid hps
  obtain ⟨a0, c0, rfl⟩ := ho.form
  have HS := Lib.hid ho.rd
  have hsm : ∀ q ∈ ps, q.length ≤ 1048576 := by rw [hps]; exact mtL_small (l := s.data.toList) (blS s hs)
  have HSM := Lib.hid hsm
  have HST := Lib.hid hst
  have HB := Lib.hid hb
  have hz1 := hb.size
  clear ho hb hps hsm hall hc hmv
  go_wp2_with fail
  refine (l27Rounds_any m _ (by omega)).mono ?_
  rintro e w2 ⟨v2, rfl, ho2, hb2⟩
  obtain ⟨a2, c2, rfl⟩ := owns_slice ho2
  have hr2 : Ints w2 (.slice a2 m c2) (rounds m) := by
    have := Sl.of_owns ho2
    unfold Ints; rw [rounds_len]; exact this
  have hz2 := hb2.size
  go_wp2_with fail
  refine (l00Own_any _ (rounds m) _ hr2 (by rw [rounds_len]; omega)).mono ?_
  rintro e w3 ⟨v3, rfl, ho3, hb3⟩
  obtain ⟨a3, c3, rfl⟩ := ho3.form
  rw [rounds_len] at ho3 ⊢
  have hz3 := hb3.size
  have HI0 := Lib.hid (show ISt w1.heap.size (w3.heap.size + 1) (w3.alloc (.cells #[.slice a3 m c3] 63)) (.slice (some ⟨w3.heap.size, 0, none⟩) 1 1) [(.slice a3 m c3, rounds m)] from ISt.one (ho3.wide hz2 (Nat.le_refl _)) (by omega))
  have HB3 := Lib.hid ((hb2.trans (hb3.mono hz2)).trans ((belowA w3 (.cells #[.slice a3 m c3] 63)).mono (by omega)))
  have HR3 := Lib.hid ((hr2.mono hb3).mono (belowA w3 (.cells #[.slice a3 m c3] 63)))
  clear ho2 hb2 ho3 hb3 hr2
  go_wp2_with fail
  go_loopw [8, 9, 10, 11, 12] (fun rw_ rv it _ _ wr => ∃ (k q : Nat) (ys : List (Value × List Int)) (a' : Option Addr) (c' : Nat) (ar : Option Addr) (cr : Nat), k ≤ ps.length ∧ q = k + 1 ∧ it = .int .i64 (k : Int) ∧ rw_ = .slice ar m cr ∧ rv = .slice a' q c' ∧ ys.length = q ∧ ys.map Prod.snd = rowsTo m ps k ∧ ISt w1.heap.size wr.heap.size wr (.slice a' q c') ys ∧ Ints wr (.slice ar m cr) (mrow m ps k) ∧ Below w1.heap.size w1 wr) (fun _ _ it _ _ _ => ps.length - (intOf it).toNat)
  case atStart => exact ⟨0, 1, [(.slice a3 m c3, rounds m)], _, _, _, _, Nat.zero_le _, rfl, by go_num, rfl, rfl, rfl, by rw [rowsTo_zero]; rfl, by simpa using HI0.out, HR3.out, HB3.out⟩
  case round =>
    obtain ⟨k, q, ys, a', c', ar, cr, hk, hq, rfl, rfl, rfl, hyl, hys, hst2, hri, hbr⟩ := hrel
    have HYS := Lib.hid hys; have HT := Lib.hid hst2; have HBR := Lib.hid hbr; have HYL := Lib.hid hyl; have HRI := Lib.hid hri
    have hzr := hbr.size
    have HQ := Lib.hid hq
    have hkq : k < q := by omega
    have hql : q ≤ 1000 := by omega
    clear HI0 HB3 HR3 hys hst2 hri hyl hq
    by_cases hlt : k < ps.length
    · obtain ⟨b1, o1, rfl, c1⟩ := (HS.out.mono hbr).cells (by rw [strC_len]; omega)
      have d0 : wr.cell? ⟨b1, o1 + k, none⟩ = some (.string (bytesB ps[k])) := c1 k _ (strC_at hlt)
      have hpl := HSM.out _ (List.getElem_mem hlt)
      have hps : (bytesB ps[k]).size ≤ maxLen := by rw [bytesB_size]; unfold maxLen; omega
      have HR := Lib.hid (mrow_step (m := m) hlt)
      have hml : (mrow m ps k).length = m := mrow_len m ps k
      clear c1 hbr hpl
      go_wp2_with fail
      refine (l27Places_any (bytesB ps[k]) (m : Int) _ hps hn).mono ?_
      rintro e w4 ⟨v4, rfl, ho4, hb4⟩
      obtain ⟨a4, c4, rfl⟩ := ho4.form
      have hz4 := hb4.size
      have hri4 := HRI.out.mono hb4
      have HRD := Lib.hid ho4.rd
      have HT4 := Lib.hid (HT.out.mono hb4)
      have HB4 := Lib.hid (HBR.out.trans (hb4.mono hzr))
      clear ho4 hb4
      have hap := l27Apply_any (.slice ar m cr) _ (mrow m ps k) (stayV (bytesB ps[k]) (m : Int)) w4 hri4 HRD.out (by rw [hml]; exact HST.out)
      rw [← HR.out] at hap
      go_wp2_with fail
      refine hap.mono ?_
      rintro e w5 ⟨v5, rfl, ho5, hb5⟩
      obtain ⟨a5, c5, rfl⟩ := ho5.form
      have hl5 : (mrow m ps (k + 1)).length = m := mrow_len m ps (k + 1)
      have hz5 := hb5.size
      have hri5 : Ints w5 (.slice a5 m c5) (mrow m ps (k + 1)) := by have := ho5.rd; rw [hl5] at this; exact this
      have HT5 := Lib.hid (HT4.out.mono hb5)
      have HB5 := Lib.hid (HB4.out.trans (hb5.mono (by omega)))
      have HO5 := Lib.hid ho5
      rw [hl5]
      clear ho5 hb5 hap hri4 hml
      go_wp2_with fail
      refine (l00Own_any _ (mrow m ps (k + 1)) _ hri5 (by rw [hl5]; omega)).mono ?_
      rintro e w6 ⟨v6, rfl, ho6, hb6⟩
      obtain ⟨a6, c6, rfl⟩ := ho6.form
      rw [hl5] at ho6 ⊢
      have HO6 := Lib.hid ho6
      have HB6 := Lib.hid hb6
      have hz6 := hb6.size
      have HT6 := Lib.hid (HT5.out.mono hb6)
      have HR6 := Lib.hid (hri5.mono hb6)
      clear ho6 hb6 hri5
      go_wp2_with (at_builtin; refine append_one_at rfl _ _ 39 rfl w1.heap.size 63 (.slice none 0 0) 1 24 Tryd.underlying39 info_ints rfl (by decide) _ q _ rfl (by have := HT6.out.1.1; rw [HYL.out] at this; exact this) [.slice a6 m c6] rfl (slice_oneS _ _ _) w6.heap.size rfl rfl (by omega) (by decide) (by omega) ?_)
      intro a7 c7 w7 ho7 hg7 hb7 hat
      have HN := Lib.hid (ISt.snoc (L := w5.heap.size) (F := w6.heap.size) (x := mrow m ps (k + 1)) (HT5.out.wide (Nat.le_refl _) (show wr.heap.size ≤ w5.heap.size by omega)) (Nat.le_refl _) hz6 (by omega) HB6.out (Nat.le_refl _) (by rw [hl5]; simpa [OwnInts, hl5] using HO6.out) hg7 (by rw [HYL.out]; exact ho7) (by
        rcases hat with h | h
        · exact .inl h
        · exact .inr ⟨_, h, by omega⟩))
      have HB7 := Lib.hid ((HB5.out.trans (HB6.out.mono (by omega))).trans (hb7.mono (Nat.le_refl _)))
      have HR7 := Lib.hid (show Ints w7 (.slice a5 m c5) (mrow m ps (k + 1)) from by
        have h6 := (OwnRow.mono HO5.out HB6.out).far hg7 (by
          cases hv : (Value.slice a' q c').ownBlock with
          | none => exact .inl rfl
          | some g =>
            refine .inr fun e => ?_
            have h1 := HT.out.1.2 g hv
            have h2 := (HO5.out.1.lt g e.symm).1
            omega)
        have := h6.sl
        rw [hl5] at this
        unfold Ints; rw [hl5]; exact this)
      clear ho7 hg7 hb7 hat
      go_wp2
      go_roundw
      case rel => exact ⟨k + 1, q + 1, ys ++ [(.slice a6 m c6, mrow m ps (k + 1))], a7, c7, a5, c5, by omega, by rw [HQ.out], by go_num, rfl, rfl, by simp [HYL.out], by rw [List.map_append, HYS.out, rowsTo_succ]; rfl, HN.out, HR7.out, HB7.out⟩
      case measure => simp [intOf] <;> omega
    · obtain rfl : k = ps.length := by omega
      have HF := Lib.hid (HB.out.trans (hbr.mono hz1))
      have HE := Lib.hid (show mrV s (m : Int) = rowsTo m ps ps.length by rw [HV.out, ← HPS.out]; simp)
      clear hbr
      go_wp2
      go_ret2
      refine ⟨_, by rw [HC.out]; rfl, ?_, HF.out⟩
      rw [HE.out]
      exact OwnIntss.st.2 ⟨ys, HYS.out, HT.out.wide hz1 (Nat.le_refl _)⟩

end Go.Proofs.YtgdfecnpkjnhnaaDoor
