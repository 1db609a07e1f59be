/- The law FnTouch returns true and leaves memory as it was. -/
import Derived.Test.YtijhlllajddlpaaDraw24b
import Derived.Test.YtijhlllajddlpaaFnTouchL
import Derived.Test.YtijhlllajddlpaaEvenI
import Derived.Test.YtijhlllajddlpaaLong
set_option linter.unusedSimpArgs false
set_option linter.unnecessarySimpa false
set_option linter.unusedVariables false
set_option maxRecDepth 100000
namespace Go.Proofs.Ytijhlllajddlpaa
open Go.RowKit

theorem i64_smN {n : Int} (h : smN n) : I64 n := by unfold smN at h; simp only [I64, Lit.wf, IntKind.min, IntKind.max, IntKind.signed, IntKind.bits]; simp; omega
def DrawnEW (w : World) (e : Ending) (w' : World) : Prop :=
  ∃ (v : Value) (xs : List ActD) (t : Int), e = .returned (.tuple #[v, .int .i64 t]) ∧ OwnActs w.heap.size w'.heap.size w' v xs ∧ (∀ x ∈ xs, smA x) ∧ xs.length ≤ 49 ∧ smN t ∧ Below w.heap.size w w'
theorem DrawEvenWeights_any (w : World) (v0 : Value) (x0 : List Int) (h0 : Byts w v0 x0) (o0 : okByts x0) :
    Calls Try.prog 11 #[v0] w (DrawnEW w) := by
  obtain ⟨a0, ca, rfl, _, _, _⟩ := id h0
  go_enter Try.func11, Try.ntmps11
  go_wp2_with fail
  refine (l00From_any a0 x0.length ca _).mono ?_
  rintro e w1 ⟨rfl, hs, hz1⟩
  have HS := Lib.hid hs
  clear hs
  go_wp2_with fail
  refine (l24Draw_any w w.heap.size 0 _ x0 w1 h0 o0 HS.out (by omega)).mono ?_
  rintro e w2 ⟨v, xs, m, rfl, hown, hsm, hlen, m0, m1, hs2, ht2⟩
  have hz2 := ht2.size
  have HO := Lib.hid hown; have HSM := Lib.hid hsm; have HL := Lib.hid hlen; have HS2 := Lib.hid hs2
  obtain ⟨a1, c1, rfl⟩ := hown.form
  have HB2 := Lib.hid (ht2.below HS.out.below (Nat.le_refl _) (by omega))
  clear hown hsm hlen hs2 ht2 HS
  go_wp2_with fail
  refine (among_lit w w.heap.size m _ x0 [0, 500, 3000, 1000000, 1000001, -1, 77] 7 w2.heap.size w2 h0 o0 HS2.out (by omega) rfl rfl (by simp) (by simp)).mono ?_
  rintro e w3 ⟨t, m3, rfl, ht, m30, m31, hs3, ht3⟩
  have HT := Lib.hid (show smN t by simp only [List.mem_cons, List.not_mem_nil, or_false] at ht; unfold smN; omega)
  have hz3 := ht3.size
  have HO3 := Lib.hid ((HO.out.touch ht3 (.inr (by omega))).wide (B' := w.heap.size) (by omega) hz3)
  have HB3 := Lib.hid (ht3.below HB2.out (Nat.le_refl _) (by omega))
  clear ht hs3 ht3 HO HB2 HS2
  go_wp2
  go_ret2
  exact ⟨_, xs, t, rfl, HO3.out, HSM.out, HL.out, HT.out, HB3.out⟩

set_option maxHeartbeats 4000000 in
theorem lawTouch (w : World) (v0 : Value) (x0 : List Int) (h0 : Byts w v0 x0) (o0 : okByts x0) :
    Calls Try.prog 4 #[v0] w fun e w' => e = .returned (.bool true) ∧ Below w.heap.size w w' := by
  obtain ⟨a0, ca, rfl, hca, hcm, _⟩ := id h0
  have hm : x0.length ≤ maxLen := by omega
  unfold maxLen at hm
  clear hca hcm
  by_cases gl : x0.length ≤ 1048576
  rotate_left
  · have d1 : decide (1048576 < (x0.length : Int)) = true := by simp; omega
    go_enter Try.func4, Try.ntmps4
    go_wp2_with fail
    refine (b10Long_any a0 x0.length ca _ (by omega)).mono ?_
    rintro e w' ⟨rfl, rfl⟩
    go_wp2
    go_ret
    exact ⟨rfl, Below.refl _ _⟩
  have d1 : decide (1048576 < (x0.length : Int)) = false := by simp; omega
  go_enter Try.func4, Try.ntmps4
  go_wp2_with fail
  refine (b10Long_any a0 x0.length ca _ (by omega)).mono ?_
  rintro e w' ⟨rfl, rfl⟩
  go_wp2_with fail
  refine (DrawEvenWeights_any w _ x0 h0 o0).mono ?_
  rintro e w1 ⟨v, xs, lim, rfl, hown, hsm, hlen, ht, hb1⟩
  obtain ⟨a1, c1, rfl⟩ := hown.form
  have hz1 := hb1.size
  have RD1 := Lib.hid hown.rd; have SM := Lib.hid hsm; have HT := Lib.hid (i64_smN ht); have HB1 := Lib.hid hb1
  have OKA := Lib.hid (sm_okActs hsm)
  have hsz := sm_sz hsm hlen
  clear hown hsm ht hb1 d1
  go_wp2_with fail
  refine (implEvenWeights_any _ xs lim _ RD1.out OKA.out (by omega) HT.out).mono ?_
  rintro e w2 ⟨v2, rfl, own2, hb2⟩
  obtain ⟨a2, c2, rfl⟩ := own2.form
  have hz2 := hb2.size
  have RD2 := Lib.hid own2.rd
  have HB2 := Lib.hid (HB1.out.trans (hb2.mono hz1))
  have RD12 := Lib.hid (RD1.out.mono hb2)
  clear own2 hb2 RD1
  by_cases gv : clavB xs = true
  rotate_left
  · have e6 := ev_inv (lim := lim) (show clavB xs = false by simpa using gv)
    rw [e6.1, e6.2]
    clear gv
    go_wp2
    go_ret
    exact ⟨rfl, HB2.out⟩
  by_cases gt : limOk lim
  rotate_left
  · have e6 := ev_rng gv gt
    rw [e6.1, e6.2]
    clear gv gt
    go_wp2
    go_ret
    exact ⟨rfl, HB2.out⟩
  have e6 := ev_yes gv gt
  rw [e6.1] at RD2
  rw [e6.1, e6.2]
  have GV := Lib.hid gv; have GT := Lib.hid gt
  have hel : (evens xs lim).length = xs.length := by simp [evens]
  have HEL := Lib.hid hel
  rw [hel]
  have EC := Lib.hid (evens_clav gv gt)
  have ESM := Lib.hid (evens_sm SM.out gv gt)
  have EOK := Lib.hid (sm_okActs ESM.out)
  have esz := sm_sz ESM.out (by rw [hel]; exact hlen)
  have dl : ((xs.length : Int) != (xs.length : Int)) = false := by simp
  have EU := Lib.hid (even_uneven gv gt)
  clear gv gt e6 hel
  have hel := HEL.out
  have RDE := Lib.hid (show RdActs w2 (.slice a2 xs.length c2) (evens xs lim) from by have := RD2.out; rwa [HEL.out] at this)
  clear hel RD2
  go_wp2_with fail
  refine (specValidClavier_any _ (evens xs lim) _ RDE.out EOK.out (by omega)).mono ?_
  rintro e w3 ⟨rfl, hb3⟩
  rw [EC.out]
  have hz3 := hb3.size
  have HB3 := Lib.hid (HB2.out.trans (hb3.mono (by omega)))
  have RD3 := Lib.hid (RD12.out.mono hb3)
  have RE3 := Lib.hid (RDE.out.mono hb3)
  clear hb3 RD12 RDE
  go_wp2_with fail
  go_loopw [7, 8, 9, 10, 11, 12, 13, 14] (fun i _ _ _ _ _ _ _ wr => ∃ k : Nat, k ≤ xs.length ∧ i = .int .i64 (k : Int) ∧ Below w3.heap.size w3 wr) (fun i _ _ _ _ _ _ _ _ => xs.length - (intOf i).toNat)
  case atStart => exact ⟨0, Nat.zero_le _, by go_num, Below.refl _ _⟩
  case round =>
    obtain ⟨k, hk, rfl, hb⟩ := hrel
    have hzr := hb.size
    have hz3r : w.heap.size ≤ w3.heap.size := by omega
    have HB := Lib.hid hb
    have RDr := Lib.hid (RD3.out.mono hb)
    have REr := Lib.hid (RE3.out.mono hb)
    clear hb
    by_cases hlt : k < xs.length
    · have hlt2 : k < (evens xs lim).length := by rw [HEL.out]; exact hlt
      have hre : RdActs wr (.slice a2 (evens xs lim).length c2) (evens xs lim) := by have := REr.out; rwa [HEL.out]
      obtain ⟨b2, o2, l2, k2, e2, hB2, hA2⟩ := hre.at' hlt2
      obtain ⟨b1, o1, l1, k1, e1, hB1, hA1⟩ := RDr.out.at' hlt
      have hyk : (evens xs lim)[k] = evenA lim xs[k] := by simp [evens]
      rw [hyk] at hA2
      obtain rfl := e1
      obtain rfl := e2
      have HOK := Lib.hid ((clavB_iff.1 GV.out).ok hlt)
      have HT0 := Lib.hid (even_touch HOK.out GT.out)
      have SMk := Lib.hid (SM.out _ (List.getElem_mem hlt))
      have OKk := Lib.hid (OKA.out _ (List.getElem_mem hlt))
      have OEk := Lib.hid (show (evenA lim xs[k]).ok from by have := EOK.out _ (List.getElem_mem hlt2); rwa [hyk] at this)
      have hl8 : xs[k].levs.length ≤ 1048576 := by have := SMk.out.len; omega
      have hA2' : ActIn wr b2 (o2 + k * 4) (.slice l2 xs[k].levs.length k2) (evenA lim xs[k]) := hA2
      have HA1 := Lib.hid hA1; have HA2 := Lib.hid hA2'
      obtain ⟨p0, p1, p2, p3, plv⟩ := hA2'
      simp only [evenA] at p0 p1 p2 p3
      obtain ⟨q0, _, _, _, _⟩ := hA1
      have PLV := Lib.hid plv
      clear hre hA2 hyk plv
      go_wp2_with fail
      refine (implTouchOf_any _ (evenA lim xs[k]) _ ⟨_, rfl, PLV.out⟩ OEk.out hl8).mono ?_
      rintro e w4 ⟨rfl, hb4⟩
      rw [HT0.out.1]
      obtain ⟨tv, htv⟩ : ∃ tv, tv = touchOfV (evenA lim xs[k]) := ⟨_, rfl⟩
      rw [← htv]
      have htl : tv ≤ lim := by rw [htv]; exact HT0.out.2.2
      have dt : decide (lim < tv) = false := by simpa using htl
      have hz4 := hb4.size
      have HB4 := Lib.hid (HB.out.trans (hb4.mono (by omega)))
      have p0 := cellB hb4 p0
      have p1 := cellB hb4 p1
      have p2 := cellB hb4 p2
      have p3 := cellB hb4 p3
      have q0 := cellB hb4 q0
      have RD4 := Lib.hid (RDr.out.mono hb4)
      have PL4 := Lib.hid (PLV.out.mono hb4)
      clear hb4 htv RDr REr HA1 HA2 HT0
      go_wp2_with fail
      refine (implKeyFor_any _ xs xs[k].note _ RD4.out OKA.out (by omega) OKk.out.1).mono ?_
      rintro e w5 ⟨rfl, hb5⟩
      have hkey := key_at GV.out hlt
      rw [hkey.1, hkey.2]
      have hz5 := hb5.size
      have HB5 := Lib.hid (HB4.out.trans (hb5.mono (by omega)))
      have p0 := cellB hb5 p0
      have p1 := cellB hb5 p1
      have p2 := cellB hb5 p2
      have p3 := cellB hb5 p3
      have q0 := cellB hb5 q0
      have PL5 := Lib.hid (PL4.out.mono hb5)
      have dk : ((k : Int) != (k : Int)) = false := by simp
      have dn : (xs[k].note != xs[k].note) = false := by simp
      clear hb5 RD4 PL4 hkey PLV
      have b25 : b2 < w5.heap.size := by omega
      have b15 : b1 < w5.heap.size := by omega
      go_wp2_with fail
      go_quiet (fail)
      obtain ⟨wd, hwd⟩ : ∃ wd : World, wd = w5.drewN nq := ⟨_, rfl⟩
      have hq : Q w5 wd := by rw [hwd]; exact (Q.refl _).drewN nq
      rw [← hwd]
      have p0 := (hq.cell _).trans p0
      have p1 := (hq.cell _).trans p1
      have p2 := (hq.cell _).trans p2
      have p3 := (hq.cell _).trans p3
      have hbd : Below w5.heap.size w5 wd := hq.below _
      have PLd := Lib.hid (PL5.out.mono hbd)
      have HBd := Lib.hid (HB5.out.trans (hbd.mono (by omega)))
      have hzd := hbd.size
      clear hwd hq hbd PL5 HB5 q0
      by_cases hm : evenW xs[k].levs lim = 1000000
      · rw [hm] at p3
        have b2d : b2 < wd.heap.size := by omega
        clear q0 dk dn dt
        go_wp2
        exact ⟨⟨k + 1, by omega, by go_num, HBd.out⟩, by simp [intOf] <;> omega⟩
      · have ew := evenW_is (lim := lim) HOK.out.arms GT.out.1
        have e0 := ew.1
        have e1 := ew.2.1
        have dm : (evenW xs[k].levs lim == 1000000) = false := by simpa using hm
        have we : IntKind.i64.wrap (evenW xs[k].levs lim + 1) = evenW xs[k].levs lim + 1 := IntWalk.i64_in _ (by omega)
        have HH := Lib.hid (heavy_touch HOK.out GT.out hm)
        have HHK := Lib.hid (show (heavy lim xs[k]).ok from ⟨OKk.out.1, OKk.out.2.1, by simp only [heavy]; simp only [I64, Lit.wf, IntKind.min, IntKind.max, IntKind.signed, IntKind.bits]; simp; omega, OKk.out.2.2.2⟩)
        have b2d : b2 < wd.heap.size := by omega
        clear ew hm dk dn dt
        go_wp2_with fail
        refine (implTouchOf_any _ (heavy lim xs[k]) _ ⟨_, rfl, PLd.out.mono (by (repeat (first | with_reducible exact Below.refl _ _ | with_reducible exact hbw | (with_reducible refine Below.setCell ?_ ?_ _; rotate_left; · first | exact Nat.le_refl _ | omega | (simp; done) | (simp; omega)) | (with_reducible refine Below.alloc ?_ ?_ _; rotate_left; · first | exact Nat.le_refl _ | omega | (simp; done) | (simp; omega)) | with_reducible refine below_drewN ?_ _ | with_reducible refine Below.drew ?_)))⟩ HHK.out hl8).mono ?_
        rintro e w6 ⟨rfl, hb6⟩
        have HB6 := Lib.hid (show Below w3.heap.size w3 w6 from HBd.out.trans ((Below.trans (belowA _ _) (hb6.mono (by simp))).mono (by omega)))
        clear hb6 we dm
        obtain ⟨tc, htc⟩ : ∃ tc, tc = touchOfC (heavy lim xs[k]) := ⟨_, rfl⟩
        obtain ⟨th, hth⟩ : ∃ th, th = touchOfV (heavy lim xs[k]) := ⟨_, rfl⟩
        have hh := HH.out
        rw [← htc, ← hth] at hh ⊢
        clear HH htc hth
        by_cases g0 : tc = 0
        · subst g0
          have hh2 := hh rfl
          have d6 : decide (th ≤ lim) = false := by simp; omega
          clear hh
          go_wp2
          exact ⟨⟨k + 1, by omega, by go_num, HB6.out⟩, by simp [intOf] <;> omega⟩
        · have d5 : (tc == 0) = false := by simpa using g0
          clear hh g0
          go_wp2
          exact ⟨⟨k + 1, by omega, by go_num, HB6.out⟩, by simp [intOf] <;> omega⟩
    · obtain rfl : k = xs.length := by omega
      have hre : RdActs wr (.slice a2 xs.length c2) (evens xs lim) := REr.out
      have HRE := Lib.hid hre
      have esz' : szActs (evens xs lim) ≤ 1048576 := by omega
      clear hre
      go_wp2_with fail
      refine (implUnevenKeys_any _ (evens xs lim) lim _ HRE.out EOK.out esz' HT.out).mono ?_
      rintro e w4 ⟨v4, rfl, ho4, hb4⟩
      obtain ⟨a4, c4, rfl⟩ := ho4.form
      rw [EU.out.1, EU.out.2]
      have HB4 := Lib.hid (HB3.out.trans ((HB.out.trans (hb4.mono hzr)).mono (by omega)))
      clear ho4 hb4
      go_wp2
      go_ret
      exact ⟨rfl, HB4.out⟩

end Go.Proofs.Ytijhlllajddlpaa
