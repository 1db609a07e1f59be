/- The law FnChamber returns true and leaves memory as it was. -/
import Derived.Test.YteaijhmgfddjiaaDoorPlcT
import Derived.Test.YteaijhmgfddjiaaDoorDrawPlc
import Derived.Test.YteaijhmgfddjiaaDoorByts
import Derived.Test.YteaijhmgfddjiaaDoorLong2
set_option linter.unusedSimpArgs false
set_option linter.unnecessarySimpa false
set_option linter.unusedVariables false
set_option maxRecDepth 100000
namespace Go.Proofs.YteaijhmgfddjiaaDoor
open Go.RowKit

set_option maxHeartbeats 4000000 in
theorem lawChamber (w : World) (v0 : Value) (x0 : List Int) (h0 : Byts w v0 x0) (o0 : okByts x0) (v1 : Value) (x1 : List Int) (h1 : Byts w v1 x1) (o1 : okByts x1) (ht : Lay w) :
    Calls Tryd.prog 3 #[v0, v1] w fun e w' => e = .returned (.bool true) ∧ Below w.heap.size w w' := by
  obtain ⟨a0, ca, rfl, hca, hcm, _⟩ := id h0
  obtain ⟨b0, cb, rfl, hcb, hcm2, _⟩ := id h1
  have hm : x0.length ≤ maxLen := by omega
  have hm2 : x1.length ≤ maxLen := by omega
  unfold maxLen at hm hm2
  clear hca hcm hcb hcm2
  by_cases gl : x0.length ≤ 1048576 ∧ x1.length ≤ 1048576
  rotate_left
  · go_enter Tryd.func3, Tryd.ntmps3
    go_wp2_with fail
    refine (r8Long_any true a0 b0 x0.length x1.length ca cb _ (by omega) (by omega) (by symm; simp; omega)).mono ?_
    rintro e w' ⟨rfl, rfl⟩
    go_wp2
    go_ret
    exact ⟨rfl, Below.refl _ _⟩
  obtain ⟨gl1, gl2⟩ := gl
  go_enter Tryd.func3, Tryd.ntmps3
  go_wp2_with fail
  refine (r8Long_any false a0 b0 x0.length x1.length ca cb _ (by omega) (by omega) (by symm; simp; omega)).mono ?_
  rintro e w' ⟨rfl, rfl⟩
  go_wp2_with fail
  refine (R8Places_any w _ x0 h0 o0).mono ?_
  rintro e w1 ⟨ys, a1, c1, rfl, hd, hrd, hb1⟩
  have hn5 := hd.len
  have HD := Lib.hid hd
  have OK := Lib.hid hd.ok
  have OV := Lib.hid (plcs_okv hd.ok)
  have RL1 := Lib.hid hrd
  have HB1 := Lib.hid hb1
  clear hd hrd
  go_wp2_with fail
  refine (r8Wide_any _ x1 0 400 _ (Byts.mono h1 hb1) o1 (by omega) (by omega) (by omega) (by omega)).mono ?_
  rintro e w2 ⟨gap, rfl, g0, g1, rfl⟩
  have wg : IntKind.i64.wrap (gap + 50) = gap + 50 := IntWalk.i64_in _ (by omega)
  obtain ⟨n1, hn1⟩ : ∃ n1, n1 = cntI ys gap ys.length := ⟨_, rfl⟩
  obtain ⟨n2, hn2⟩ : ∃ n2, n2 = cntI ys (gap + 50) ys.length := ⟨_, rfl⟩
  have hn12 : n1 ≤ n2 := by rw [hn1, hn2]; exact cntI_mono ys (by omega) _
  have HN1 := Lib.hid hn1; have HN2 := Lib.hid hn2
  clear hn1 hn2 hb1
  go_wp2_with fail
  refine (ClashesOf_any _ ys gap _ RL1.out OV.out OK.out ⟨by omega, by omega⟩).mono ?_
  rw [← HN1.out]
  rintro e w3 ⟨a3, c3, rfl, hb3⟩
  have RL3 := Lib.hid (RL1.out.mono hb3)
  have HB3 := Lib.hid (HB1.out.trans (hb3.mono HB1.out.size))
  clear hb3
  go_wp2_with fail
  refine (ClashesOf_any _ ys (gap + 50) _ RL3.out OV.out OK.out ⟨by omega, by omega⟩).mono ?_
  rw [← HN2.out]
  rintro e w4 ⟨a4, c4, rfl, hb4⟩
  have RL := Lib.hid (RL3.out.mono hb4)
  have HB3 := Lib.hid (HB3.out.trans (hb4.mono HB3.out.size))
  clear hb4 RL3 RL1 HB1
  have dn : decide (n2 < n1) = false := decide_eq_false (by omega)
  go_wp2_with fail
  refine (LeastClearance_any _ ys _ RL.out OV.out OK.out).mono ?_
  rintro e w5 ⟨m, c, rfl, hc1, hc2, hb5⟩
  have RL := Lib.hid (RL.out.mono hb5)
  have HB3 := Lib.hid (HB3.out.trans (hb5.mono HB3.out.size))
  clear hb5
  obtain ⟨w3, rfl⟩ : ∃ w3, w3 = w5 := ⟨_, rfl⟩
  by_cases g2 : ys.length < 2
  · have hc := hc1 g2
    subst hc
    have hz : n1 = 0 := by rw [HN1.out]; exact cnt_few g2 gap
    subst hz
    go_wp2
    go_ret
    exact ⟨rfl, HB3.out⟩
  · obtain ⟨hc, hle⟩ := hc2 (by omega)
    subst hc
    have HLE := Lib.hid hle
    have hmg : m < gap ↔ 0 < n1 := by rw [HN1.out]; exact least_hits hle
    have HL3 := Lib.hid (ht.mono HB3.out)
    have HX1 := Lib.hid (Byts.mono h1 HB3.out)
    clear hc1 hc2 hle
    by_cases g3 : m < gap
    · have g4 := hmg.1 g3
      clear hmg
      go_wp2_with fail
      refine (r8At_any _ x1 2 ys.length _ HX1.out o1 (by omega) (by omega) (by omega) (by omega)).mono ?_
      rintro e wq ⟨ri, rfl, i0, i1, rfl⟩
      obtain ⟨i, rfl⟩ : ∃ i : Nat, ri = i := ⟨ri.toNat, by omega⟩
      have hi : i < ys.length := by omega
      go_wp2_with fail
      refine (r8At_any _ x1 3 ys.length _ HX1.out o1 (by omega) (by omega) (by omega) (by omega)).mono ?_
      rintro e wq ⟨rk, rfl, k0, k1, rfl⟩
      obtain ⟨k, rfl⟩ : ∃ k : Nat, rk = k := ⟨rk.toNat, by omega⟩
      have hk : k < ys.length := by omega
      have OKM := Lib.hid (HD.out.moved_ok hi)
      have BACK := Lib.hid (moveAt_back hi 7 5 3)
      clear i0 i1 k0 k1
      by_cases hik : i = k
      · have dik : ((i : Int) != (k : Int)) = false := by simp; omega
        have HB := Lib.hid (Below.refl wq.heap.size wq)
        clear hik hk
        go_wp2_with fail
        refine (MovePlace_any _ ys i 7 5 3 _ (RL.out.mono HB.out) OK.out hi (by omega) (by omega) (by omega) OKM.out).mono ?_
        rintro e w5 ⟨a5, c5, rfl, hr5, hb5⟩
        have HB5 := Lib.hid (HB.out.trans (hb5.mono HB.out.size))
        have HR5 := Lib.hid hr5
        clear hr5 hb5
        go_wp2_with fail
        refine (MovePlace_any _ (moveAt ys i 7 5 3) i (-7) (-5) (-3) _ HR5.out OKM.out (by rw [moveAt_len]; exact hi) (by omega) (by omega) (by omega) (by rw [BACK.out]; exact OK.out)).mono ?_
        rintro e w6 ⟨a6, c6, rfl, hr6, hb6⟩
        rw [BACK.out, moveAt_len] at hr6
        rw [moveAt_len]
        have HB6 := Lib.hid (HB5.out.trans (hb6.mono HB5.out.size))
        have HR6 := Lib.hid hr6
        clear hr6 hb6
        go_wp2_with fail
        go_loopw [23] (fun jv wr => ∃ j : Nat, j ≤ ys.length ∧ jv = .int .i64 j ∧ Below w6.heap.size w6 wr) (fun jv _ => ys.length - (intOf jv).toNat)
        case atStart => exact ⟨0, Nat.zero_le _, by go_num, Below.refl _ _⟩
        case round =>
          obtain ⟨j, hj, rfl, hbr⟩ := hrel
          by_cases hlt : j < ys.length
          · have hwr := HB6.out.trans (hbr.mono HB6.out.size)
            have HWR := Lib.hid hwr
            obtain ⟨b1, o1', e1, m1, x0, x1', x2, x3, x4⟩ := (RL.out.mono hwr).at hlt
            first | subst e1 | (simp only [Option.some.injEq, Addr.mk.injEq, and_true] at e1; obtain ⟨rfl, rfl⟩ := e1)
            have hpj := OK.out.ok hlt
            have HPJ := Lib.hid hpj
            clear hpj hwr
            go_wp2_with fail
            refine (PlaceText_any ys[j] _ HPJ.out (HL3.out.mono HWR.out)).mono ?_
            rintro e w7 ⟨rfl, hb7⟩
            have HW7 := Lib.hid (HWR.out.trans (hb7.mono HWR.out.size))
            have HBR7 := Lib.hid (hbr.trans (hb7.mono hbr.size))
            obtain ⟨tx, htx⟩ : ∃ tx, tx = plcT ys[j] := ⟨_, rfl⟩
            rw [← htx]
            have HTX := Lib.hid htx
            clear hb7 htx x0 x1' x2 x3 x4 m1 hbr
            go_wp2_with fail
            rw [HTX.out]
            refine (ReadPlace_any ys[j] _ HPJ.out (HL3.out.mono HW7.out)).mono ?_
            rintro e w8 ⟨rfl, hb8⟩
            have HW8 := Lib.hid (HW7.out.trans (hb8.mono HW7.out.size))
            have HBR8 := Lib.hid (HBR7.out.trans (hb8.mono HBR7.out.size))
            rw [← HTX.out]
            clear hb8
            go_wp2_with fail
            have BX := Box.alloc w8 [.string ys[j].bell, .int .i64 ys[j].x, .int .i64 ys[j].y, .int .i64 ys[j].z, .int .i64 ys[j].reach] 34 w8.heap.size rfl
            have hbA := belowA w8 (.cells #[.string ys[j].bell, .int .i64 ys[j].x, .int .i64 ys[j].y, .int .i64 ys[j].z, .int .i64 ys[j].reach] 34)
            obtain ⟨W, hW⟩ : ∃ W, W = w8.alloc (.cells #[.string ys[j].bell, .int .i64 ys[j].x, .int .i64 ys[j].y, .int .i64 ys[j].z, .int .i64 ys[j].reach] 34) := ⟨_, rfl⟩
            rw [← hW] at BX hbA ⊢
            clear hW
            have hW8 := HW8.out.trans (hbA.mono HW8.out.size)
            have hBR8 := HBR8.out.trans (hbA.mono HBR8.out.size)
            obtain ⟨b1, o1', e1, m1, x0, x1', x2, x3, x4⟩ := (RL.out.mono hW8).at hlt
            first | subst e1 | (simp only [Option.some.injEq, Addr.mk.injEq, and_true] at e1; obtain ⟨rfl, rfl⟩ := e1)
            obtain ⟨b2, o2', e2, m2, y0, y1, y2, y3, y4⟩ := (HR6.out.mono hBR8).at hlt
            first | subst e2 | (simp only [Option.some.injEq, Addr.mk.injEq, and_true] at e2; obtain ⟨rfl, rfl⟩ := e2)
            have z0 := BX.at' 0 _ rfl
            have z1 := BX.at' 1 _ rfl
            have z2 := BX.at' 2 _ rfl
            have z3 := BX.at' 3 _ rfl
            have z4 := BX.at' 4 _ rfl
            have lz := BX.lt
            clear BX hbA hW8
            go_quiet (fail)
            clear x0 x1' x2 x3 x4 y0 y1 y2 y3 y4 z0 z1 z2 z3 z4 lz m1 m2
            go_wp2
            go_roundw
            case rel => exact ⟨j + 1, by omega, by go_num, hBR8.trans ((Below.drawN _).mono hBR8.size)⟩
            case measure => simp [intOf]; omega
          · obtain rfl : j = ys.length := by omega
            go_wp2
            go_ret
            exact ⟨rfl, HB3.out.trans ((HB6.out.trans (hbr.mono HB6.out.size)).mono HB3.out.size)⟩
      · have dik : ((i : Int) != (k : Int)) = true := by simp; omega
        obtain ⟨q, hq⟩ : ∃ q, q = clr ys[i] ys[k] := ⟨_, rfl⟩
        have HQ1 := Lib.hid hq.symm
        have HQ2 := Lib.hid (show clr ys[k] ys[i] = q by rw [clr_symm, hq])
        have hmq : m ≤ q := by
          have := least_le HLE.out hi hk hik
          rw [getD_plc hi, getD_plc hk] at this
          rw [hq]; exact this
        have dmq : decide (q < m) = false := decide_eq_false (by omega)
        clear hq hik
        have hb0 := Below.refl wq.heap.size wq
        obtain ⟨b1, o1', e1, m1, x0, x1', x2, x3, x4⟩ := (RL.out.mono hb0).at hi
        first | subst e1 | (simp only [Option.some.injEq, Addr.mk.injEq, and_true] at e1; obtain ⟨rfl, rfl⟩ := e1)
        obtain ⟨b2, o2', e2, m2, y0, y1, y2, y3, y4⟩ := (RL.out.mono hb0).at hk
        first | subst e2 | (simp only [Option.some.injEq, Addr.mk.injEq, and_true] at e2; obtain ⟨rfl, rfl⟩ := e2)
        go_wp2_with fail
        refine wp_region_ord [(0, true), (1, true), (2, true), (3, true), (4, true), (5, true), (6, true), (7, true), (8, false), (9, true), (10, true), (11, true), (12, true), (13, true)] (none) (by kernel_rfl) (by kernel_rfl) ?_
        (repeat (with_reducible refine wpOrd_soft (fun K hK => ?_); simp only [List.getElem?_toArray, List.getElem?_cons_zero, List.getElem?_cons_succ]; first | (go_simp; refine hK _ ?_) | (simp only [undef]; go_simp; refine hK _ ?_); clear hK K))
        (with_reducible refine wpOrd_hard ?_; simp only [List.getElem?_toArray, List.getElem?_cons_zero, List.getElem?_cons_succ])
        go_wp2_with fail
        refine (ClearanceOf_any ys[i] ys[k] _ (OK.out.ok hi) (OK.out.ok hk) (OV.out _ (List.getElem_mem hi)).1 (OV.out _ (List.getElem_mem hk)).1).mono ?_
        rintro e w9 ⟨rfl, hb1⟩
        rw [HQ1.out]
        have hb1 := undrew hb1
        go_wp2_with fail
        refine ⟨grown_of_below hb1, ?_⟩
        (repeat (with_reducible refine wpOrd_soft (fun K hK => ?_); simp only [List.getElem?_toArray, List.getElem?_cons_zero, List.getElem?_cons_succ]; first | (go_simp; refine hK _ ?_) | (simp only [undef]; go_simp; refine hK _ ?_); clear hK K))
        (with_reducible refine wpOrd_nil ?_); refine NoPanic.normal ?_
        have hz9 := hb1.size
        clear x0 x1' x2 x3 x4 y0 y1 y2 y3 y4 m1 m2
        obtain ⟨wA, rfl⟩ : ∃ wA, wA = w9 := ⟨_, rfl⟩
        have HBA := Lib.hid hb1
        have hb0 := hb1
        clear hb1
        obtain ⟨b1, o1', e1, m1, x0, x1', x2, x3, x4⟩ := (RL.out.mono hb0).at hk
        first | subst e1 | (simp only [Option.some.injEq, Addr.mk.injEq, and_true] at e1; obtain ⟨rfl, rfl⟩ := e1)
        obtain ⟨b2, o2', e2, m2, y0, y1, y2, y3, y4⟩ := (RL.out.mono hb0).at hi
        first | subst e2 | (simp only [Option.some.injEq, Addr.mk.injEq, and_true] at e2; obtain ⟨rfl, rfl⟩ := e2)
        go_wp2_with fail
        refine wp_region_ord [(0, true), (1, true), (2, true), (3, true), (4, true), (5, true), (6, true), (7, true), (8, false), (9, true), (10, true), (11, true), (12, true), (13, true)] (none) (by kernel_rfl) (by kernel_rfl) ?_
        (repeat (with_reducible refine wpOrd_soft (fun K hK => ?_); simp only [List.getElem?_toArray, List.getElem?_cons_zero, List.getElem?_cons_succ]; first | (go_simp; refine hK _ ?_) | (simp only [undef]; go_simp; refine hK _ ?_); clear hK K))
        (with_reducible refine wpOrd_hard ?_; simp only [List.getElem?_toArray, List.getElem?_cons_zero, List.getElem?_cons_succ])
        go_wp2_with fail
        refine (ClearanceOf_any ys[k] ys[i] _ (OK.out.ok hk) (OK.out.ok hi) (OV.out _ (List.getElem_mem hk)).1 (OV.out _ (List.getElem_mem hi)).1).mono ?_
        rintro e w9 ⟨rfl, hb1⟩
        rw [HQ2.out]
        have hb1 := undrew hb1
        go_wp2_with fail
        refine ⟨grown_of_below hb1, ?_⟩
        (repeat (with_reducible refine wpOrd_soft (fun K hK => ?_); simp only [List.getElem?_toArray, List.getElem?_cons_zero, List.getElem?_cons_succ]; first | (go_simp; refine hK _ ?_) | (simp only [undef]; go_simp; refine hK _ ?_); clear hK K))
        (with_reducible refine wpOrd_nil ?_); refine NoPanic.normal ?_
        clear x0 x1' x2 x3 x4 y0 y1 y2 y3 y4 m1 m2
        have HB := Lib.hid (HBA.out.trans (hb1.mono HBA.out.size))
        clear hb1
        go_wp2_with fail
        refine (MovePlace_any _ ys i 7 5 3 _ (RL.out.mono HB.out) OK.out hi (by omega) (by omega) (by omega) OKM.out).mono ?_
        rintro e w5 ⟨a5, c5, rfl, hr5, hb5⟩
        have HB5 := Lib.hid (HB.out.trans (hb5.mono HB.out.size))
        have HR5 := Lib.hid hr5
        clear hr5 hb5
        go_wp2_with fail
        refine (MovePlace_any _ (moveAt ys i 7 5 3) i (-7) (-5) (-3) _ HR5.out OKM.out (by rw [moveAt_len]; exact hi) (by omega) (by omega) (by omega) (by rw [BACK.out]; exact OK.out)).mono ?_
        rintro e w6 ⟨a6, c6, rfl, hr6, hb6⟩
        rw [BACK.out, moveAt_len] at hr6
        rw [moveAt_len]
        have HB6 := Lib.hid (HB5.out.trans (hb6.mono HB5.out.size))
        have HR6 := Lib.hid hr6
        clear hr6 hb6
        go_wp2_with fail
        go_loopw [23] (fun jv wr => ∃ j : Nat, j ≤ ys.length ∧ jv = .int .i64 j ∧ Below w6.heap.size w6 wr) (fun jv _ => ys.length - (intOf jv).toNat)
        case atStart => exact ⟨0, Nat.zero_le _, by go_num, Below.refl _ _⟩
        case round =>
          obtain ⟨j, hj, rfl, hbr⟩ := hrel
          by_cases hlt : j < ys.length
          · have hwr := HB6.out.trans (hbr.mono HB6.out.size)
            have HWR := Lib.hid hwr
            obtain ⟨b1, o1', e1, m1, x0, x1', x2, x3, x4⟩ := (RL.out.mono hwr).at hlt
            first | subst e1 | (simp only [Option.some.injEq, Addr.mk.injEq, and_true] at e1; obtain ⟨rfl, rfl⟩ := e1)
            have hpj := OK.out.ok hlt
            have HPJ := Lib.hid hpj
            clear hpj hwr
            go_wp2_with fail
            refine (PlaceText_any ys[j] _ HPJ.out (HL3.out.mono HWR.out)).mono ?_
            rintro e w7 ⟨rfl, hb7⟩
            have HW7 := Lib.hid (HWR.out.trans (hb7.mono HWR.out.size))
            have HBR7 := Lib.hid (hbr.trans (hb7.mono hbr.size))
            obtain ⟨tx, htx⟩ : ∃ tx, tx = plcT ys[j] := ⟨_, rfl⟩
            rw [← htx]
            have HTX := Lib.hid htx
            clear hb7 htx x0 x1' x2 x3 x4 m1 hbr
            go_wp2_with fail
            rw [HTX.out]
            refine (ReadPlace_any ys[j] _ HPJ.out (HL3.out.mono HW7.out)).mono ?_
            rintro e w8 ⟨rfl, hb8⟩
            have HW8 := Lib.hid (HW7.out.trans (hb8.mono HW7.out.size))
            have HBR8 := Lib.hid (HBR7.out.trans (hb8.mono HBR7.out.size))
            rw [← HTX.out]
            clear hb8
            go_wp2_with fail
            have BX := Box.alloc w8 [.string ys[j].bell, .int .i64 ys[j].x, .int .i64 ys[j].y, .int .i64 ys[j].z, .int .i64 ys[j].reach] 34 w8.heap.size rfl
            have hbA := belowA w8 (.cells #[.string ys[j].bell, .int .i64 ys[j].x, .int .i64 ys[j].y, .int .i64 ys[j].z, .int .i64 ys[j].reach] 34)
            obtain ⟨W, hW⟩ : ∃ W, W = w8.alloc (.cells #[.string ys[j].bell, .int .i64 ys[j].x, .int .i64 ys[j].y, .int .i64 ys[j].z, .int .i64 ys[j].reach] 34) := ⟨_, rfl⟩
            rw [← hW] at BX hbA ⊢
            clear hW
            have hW8 := HW8.out.trans (hbA.mono HW8.out.size)
            have hBR8 := HBR8.out.trans (hbA.mono HBR8.out.size)
            obtain ⟨b1, o1', e1, m1, x0, x1', x2, x3, x4⟩ := (RL.out.mono hW8).at hlt
            first | subst e1 | (simp only [Option.some.injEq, Addr.mk.injEq, and_true] at e1; obtain ⟨rfl, rfl⟩ := e1)
            obtain ⟨b2, o2', e2, m2, y0, y1, y2, y3, y4⟩ := (HR6.out.mono hBR8).at hlt
            first | subst e2 | (simp only [Option.some.injEq, Addr.mk.injEq, and_true] at e2; obtain ⟨rfl, rfl⟩ := e2)
            have z0 := BX.at' 0 _ rfl
            have z1 := BX.at' 1 _ rfl
            have z2 := BX.at' 2 _ rfl
            have z3 := BX.at' 3 _ rfl
            have z4 := BX.at' 4 _ rfl
            have lz := BX.lt
            clear BX hbA hW8
            go_quiet (fail)
            clear x0 x1' x2 x3 x4 y0 y1 y2 y3 y4 z0 z1 z2 z3 z4 lz m1 m2
            go_wp2
            go_roundw
            case rel => exact ⟨j + 1, by omega, by go_num, hBR8.trans ((Below.drawN _).mono hBR8.size)⟩
            case measure => simp [intOf]; omega
          · obtain rfl : j = ys.length := by omega
            go_wp2
            go_ret
            exact ⟨rfl, HB3.out.trans ((HB6.out.trans (hbr.mono HB6.out.size)).mono HB3.out.size)⟩
    · have g4 : ¬ 0 < n1 := fun h => g3 (hmg.2 h)
      have g5 : n1 = 0 := by omega
      subst g5
      clear hmg
      go_wp2_with fail
      refine (r8At_any _ x1 2 ys.length _ HX1.out o1 (by omega) (by omega) (by omega) (by omega)).mono ?_
      rintro e wq ⟨ri, rfl, i0, i1, rfl⟩
      obtain ⟨i, rfl⟩ : ∃ i : Nat, ri = i := ⟨ri.toNat, by omega⟩
      have hi : i < ys.length := by omega
      go_wp2_with fail
      refine (r8At_any _ x1 3 ys.length _ HX1.out o1 (by omega) (by omega) (by omega) (by omega)).mono ?_
      rintro e wq ⟨rk, rfl, k0, k1, rfl⟩
      obtain ⟨k, rfl⟩ : ∃ k : Nat, rk = k := ⟨rk.toNat, by omega⟩
      have hk : k < ys.length := by omega
      have OKM := Lib.hid (HD.out.moved_ok hi)
      have BACK := Lib.hid (moveAt_back hi 7 5 3)
      clear i0 i1 k0 k1
      by_cases hik : i = k
      · have dik : ((i : Int) != (k : Int)) = false := by simp; omega
        have HB := Lib.hid (Below.refl wq.heap.size wq)
        clear hik hk
        go_wp2_with fail
        refine (MovePlace_any _ ys i 7 5 3 _ (RL.out.mono HB.out) OK.out hi (by omega) (by omega) (by omega) OKM.out).mono ?_
        rintro e w5 ⟨a5, c5, rfl, hr5, hb5⟩
        have HB5 := Lib.hid (HB.out.trans (hb5.mono HB.out.size))
        have HR5 := Lib.hid hr5
        clear hr5 hb5
        go_wp2_with fail
        refine (MovePlace_any _ (moveAt ys i 7 5 3) i (-7) (-5) (-3) _ HR5.out OKM.out (by rw [moveAt_len]; exact hi) (by omega) (by omega) (by omega) (by rw [BACK.out]; exact OK.out)).mono ?_
        rintro e w6 ⟨a6, c6, rfl, hr6, hb6⟩
        rw [BACK.out, moveAt_len] at hr6
        rw [moveAt_len]
        have HB6 := Lib.hid (HB5.out.trans (hb6.mono HB5.out.size))
        have HR6 := Lib.hid hr6
        clear hr6 hb6
        go_wp2_with fail
        go_loopw [23] (fun jv wr => ∃ j : Nat, j ≤ ys.length ∧ jv = .int .i64 j ∧ Below w6.heap.size w6 wr) (fun jv _ => ys.length - (intOf jv).toNat)
        case atStart => exact ⟨0, Nat.zero_le _, by go_num, Below.refl _ _⟩
        case round =>
          obtain ⟨j, hj, rfl, hbr⟩ := hrel
          by_cases hlt : j < ys.length
          · have hwr := HB6.out.trans (hbr.mono HB6.out.size)
            have HWR := Lib.hid hwr
            obtain ⟨b1, o1', e1, m1, x0, x1', x2, x3, x4⟩ := (RL.out.mono hwr).at hlt
            first | subst e1 | (simp only [Option.some.injEq, Addr.mk.injEq, and_true] at e1; obtain ⟨rfl, rfl⟩ := e1)
            have hpj := OK.out.ok hlt
            have HPJ := Lib.hid hpj
            clear hpj hwr
            go_wp2_with fail
            refine (PlaceText_any ys[j] _ HPJ.out (HL3.out.mono HWR.out)).mono ?_
            rintro e w7 ⟨rfl, hb7⟩
            have HW7 := Lib.hid (HWR.out.trans (hb7.mono HWR.out.size))
            have HBR7 := Lib.hid (hbr.trans (hb7.mono hbr.size))
            obtain ⟨tx, htx⟩ : ∃ tx, tx = plcT ys[j] := ⟨_, rfl⟩
            rw [← htx]
            have HTX := Lib.hid htx
            clear hb7 htx x0 x1' x2 x3 x4 m1 hbr
            go_wp2_with fail
            rw [HTX.out]
            refine (ReadPlace_any ys[j] _ HPJ.out (HL3.out.mono HW7.out)).mono ?_
            rintro e w8 ⟨rfl, hb8⟩
            have HW8 := Lib.hid (HW7.out.trans (hb8.mono HW7.out.size))
            have HBR8 := Lib.hid (HBR7.out.trans (hb8.mono HBR7.out.size))
            rw [← HTX.out]
            clear hb8
            go_wp2_with fail
            have BX := Box.alloc w8 [.string ys[j].bell, .int .i64 ys[j].x, .int .i64 ys[j].y, .int .i64 ys[j].z, .int .i64 ys[j].reach] 34 w8.heap.size rfl
            have hbA := belowA w8 (.cells #[.string ys[j].bell, .int .i64 ys[j].x, .int .i64 ys[j].y, .int .i64 ys[j].z, .int .i64 ys[j].reach] 34)
            obtain ⟨W, hW⟩ : ∃ W, W = w8.alloc (.cells #[.string ys[j].bell, .int .i64 ys[j].x, .int .i64 ys[j].y, .int .i64 ys[j].z, .int .i64 ys[j].reach] 34) := ⟨_, rfl⟩
            rw [← hW] at BX hbA ⊢
            clear hW
            have hW8 := HW8.out.trans (hbA.mono HW8.out.size)
            have hBR8 := HBR8.out.trans (hbA.mono HBR8.out.size)
            obtain ⟨b1, o1', e1, m1, x0, x1', x2, x3, x4⟩ := (RL.out.mono hW8).at hlt
            first | subst e1 | (simp only [Option.some.injEq, Addr.mk.injEq, and_true] at e1; obtain ⟨rfl, rfl⟩ := e1)
            obtain ⟨b2, o2', e2, m2, y0, y1, y2, y3, y4⟩ := (HR6.out.mono hBR8).at hlt
            first | subst e2 | (simp only [Option.some.injEq, Addr.mk.injEq, and_true] at e2; obtain ⟨rfl, rfl⟩ := e2)
            have z0 := BX.at' 0 _ rfl
            have z1 := BX.at' 1 _ rfl
            have z2 := BX.at' 2 _ rfl
            have z3 := BX.at' 3 _ rfl
            have z4 := BX.at' 4 _ rfl
            have lz := BX.lt
            clear BX hbA hW8
            go_quiet (fail)
            clear x0 x1' x2 x3 x4 y0 y1 y2 y3 y4 z0 z1 z2 z3 z4 lz m1 m2
            go_wp2
            go_roundw
            case rel => exact ⟨j + 1, by omega, by go_num, hBR8.trans ((Below.drawN _).mono hBR8.size)⟩
            case measure => simp [intOf]; omega
          · obtain rfl : j = ys.length := by omega
            go_wp2
            go_ret
            exact ⟨rfl, HB3.out.trans ((HB6.out.trans (hbr.mono HB6.out.size)).mono HB3.out.size)⟩
      · have dik : ((i : Int) != (k : Int)) = true := by simp; omega
        obtain ⟨q, hq⟩ : ∃ q, q = clr ys[i] ys[k] := ⟨_, rfl⟩
        have HQ1 := Lib.hid hq.symm
        have HQ2 := Lib.hid (show clr ys[k] ys[i] = q by rw [clr_symm, hq])
        have hmq : m ≤ q := by
          have := least_le HLE.out hi hk hik
          rw [getD_plc hi, getD_plc hk] at this
          rw [hq]; exact this
        have dmq : decide (q < m) = false := decide_eq_false (by omega)
        clear hq hik
        have hb0 := Below.refl wq.heap.size wq
        obtain ⟨b1, o1', e1, m1, x0, x1', x2, x3, x4⟩ := (RL.out.mono hb0).at hi
        first | subst e1 | (simp only [Option.some.injEq, Addr.mk.injEq, and_true] at e1; obtain ⟨rfl, rfl⟩ := e1)
        obtain ⟨b2, o2', e2, m2, y0, y1, y2, y3, y4⟩ := (RL.out.mono hb0).at hk
        first | subst e2 | (simp only [Option.some.injEq, Addr.mk.injEq, and_true] at e2; obtain ⟨rfl, rfl⟩ := e2)
        go_wp2_with fail
        refine wp_region_ord [(0, true), (1, true), (2, true), (3, true), (4, true), (5, true), (6, true), (7, true), (8, false), (9, true), (10, true), (11, true), (12, true), (13, true)] (none) (by kernel_rfl) (by kernel_rfl) ?_
        (repeat (with_reducible refine wpOrd_soft (fun K hK => ?_); simp only [List.getElem?_toArray, List.getElem?_cons_zero, List.getElem?_cons_succ]; first | (go_simp; refine hK _ ?_) | (simp only [undef]; go_simp; refine hK _ ?_); clear hK K))
        (with_reducible refine wpOrd_hard ?_; simp only [List.getElem?_toArray, List.getElem?_cons_zero, List.getElem?_cons_succ])
        go_wp2_with fail
        refine (ClearanceOf_any ys[i] ys[k] _ (OK.out.ok hi) (OK.out.ok hk) (OV.out _ (List.getElem_mem hi)).1 (OV.out _ (List.getElem_mem hk)).1).mono ?_
        rintro e w9 ⟨rfl, hb1⟩
        rw [HQ1.out]
        have hb1 := undrew hb1
        go_wp2_with fail
        refine ⟨grown_of_below hb1, ?_⟩
        (repeat (with_reducible refine wpOrd_soft (fun K hK => ?_); simp only [List.getElem?_toArray, List.getElem?_cons_zero, List.getElem?_cons_succ]; first | (go_simp; refine hK _ ?_) | (simp only [undef]; go_simp; refine hK _ ?_); clear hK K))
        (with_reducible refine wpOrd_nil ?_); refine NoPanic.normal ?_
        have hz9 := hb1.size
        clear x0 x1' x2 x3 x4 y0 y1 y2 y3 y4 m1 m2
        obtain ⟨wA, rfl⟩ : ∃ wA, wA = w9 := ⟨_, rfl⟩
        have HBA := Lib.hid hb1
        have hb0 := hb1
        clear hb1
        obtain ⟨b1, o1', e1, m1, x0, x1', x2, x3, x4⟩ := (RL.out.mono hb0).at hk
        first | subst e1 | (simp only [Option.some.injEq, Addr.mk.injEq, and_true] at e1; obtain ⟨rfl, rfl⟩ := e1)
        obtain ⟨b2, o2', e2, m2, y0, y1, y2, y3, y4⟩ := (RL.out.mono hb0).at hi
        first | subst e2 | (simp only [Option.some.injEq, Addr.mk.injEq, and_true] at e2; obtain ⟨rfl, rfl⟩ := e2)
        go_wp2_with fail
        refine wp_region_ord [(0, true), (1, true), (2, true), (3, true), (4, true), (5, true), (6, true), (7, true), (8, false), (9, true), (10, true), (11, true), (12, true), (13, true)] (none) (by kernel_rfl) (by kernel_rfl) ?_
        (repeat (with_reducible refine wpOrd_soft (fun K hK => ?_); simp only [List.getElem?_toArray, List.getElem?_cons_zero, List.getElem?_cons_succ]; first | (go_simp; refine hK _ ?_) | (simp only [undef]; go_simp; refine hK _ ?_); clear hK K))
        (with_reducible refine wpOrd_hard ?_; simp only [List.getElem?_toArray, List.getElem?_cons_zero, List.getElem?_cons_succ])
        go_wp2_with fail
        refine (ClearanceOf_any ys[k] ys[i] _ (OK.out.ok hk) (OK.out.ok hi) (OV.out _ (List.getElem_mem hk)).1 (OV.out _ (List.getElem_mem hi)).1).mono ?_
        rintro e w9 ⟨rfl, hb1⟩
        rw [HQ2.out]
        have hb1 := undrew hb1
        go_wp2_with fail
        refine ⟨grown_of_below hb1, ?_⟩
        (repeat (with_reducible refine wpOrd_soft (fun K hK => ?_); simp only [List.getElem?_toArray, List.getElem?_cons_zero, List.getElem?_cons_succ]; first | (go_simp; refine hK _ ?_) | (simp only [undef]; go_simp; refine hK _ ?_); clear hK K))
        (with_reducible refine wpOrd_nil ?_); refine NoPanic.normal ?_
        clear x0 x1' x2 x3 x4 y0 y1 y2 y3 y4 m1 m2
        have HB := Lib.hid (HBA.out.trans (hb1.mono HBA.out.size))
        clear hb1
        go_wp2_with fail
        refine (MovePlace_any _ ys i 7 5 3 _ (RL.out.mono HB.out) OK.out hi (by omega) (by omega) (by omega) OKM.out).mono ?_
        rintro e w5 ⟨a5, c5, rfl, hr5, hb5⟩
        have HB5 := Lib.hid (HB.out.trans (hb5.mono HB.out.size))
        have HR5 := Lib.hid hr5
        clear hr5 hb5
        go_wp2_with fail
        refine (MovePlace_any _ (moveAt ys i 7 5 3) i (-7) (-5) (-3) _ HR5.out OKM.out (by rw [moveAt_len]; exact hi) (by omega) (by omega) (by omega) (by rw [BACK.out]; exact OK.out)).mono ?_
        rintro e w6 ⟨a6, c6, rfl, hr6, hb6⟩
        rw [BACK.out, moveAt_len] at hr6
        rw [moveAt_len]
        have HB6 := Lib.hid (HB5.out.trans (hb6.mono HB5.out.size))
        have HR6 := Lib.hid hr6
        clear hr6 hb6
        go_wp2_with fail
        go_loopw [23] (fun jv wr => ∃ j : Nat, j ≤ ys.length ∧ jv = .int .i64 j ∧ Below w6.heap.size w6 wr) (fun jv _ => ys.length - (intOf jv).toNat)
        case atStart => exact ⟨0, Nat.zero_le _, by go_num, Below.refl _ _⟩
        case round =>
          obtain ⟨j, hj, rfl, hbr⟩ := hrel
          by_cases hlt : j < ys.length
          · have hwr := HB6.out.trans (hbr.mono HB6.out.size)
            have HWR := Lib.hid hwr
            obtain ⟨b1, o1', e1, m1, x0, x1', x2, x3, x4⟩ := (RL.out.mono hwr).at hlt
            first | subst e1 | (simp only [Option.some.injEq, Addr.mk.injEq, and_true] at e1; obtain ⟨rfl, rfl⟩ := e1)
            have hpj := OK.out.ok hlt
            have HPJ := Lib.hid hpj
            clear hpj hwr
            go_wp2_with fail
            refine (PlaceText_any ys[j] _ HPJ.out (HL3.out.mono HWR.out)).mono ?_
            rintro e w7 ⟨rfl, hb7⟩
            have HW7 := Lib.hid (HWR.out.trans (hb7.mono HWR.out.size))
            have HBR7 := Lib.hid (hbr.trans (hb7.mono hbr.size))
            obtain ⟨tx, htx⟩ : ∃ tx, tx = plcT ys[j] := ⟨_, rfl⟩
            rw [← htx]
            have HTX := Lib.hid htx
            clear hb7 htx x0 x1' x2 x3 x4 m1 hbr
            go_wp2_with fail
            rw [HTX.out]
            refine (ReadPlace_any ys[j] _ HPJ.out (HL3.out.mono HW7.out)).mono ?_
            rintro e w8 ⟨rfl, hb8⟩
            have HW8 := Lib.hid (HW7.out.trans (hb8.mono HW7.out.size))
            have HBR8 := Lib.hid (HBR7.out.trans (hb8.mono HBR7.out.size))
            rw [← HTX.out]
            clear hb8
            go_wp2_with fail
            have BX := Box.alloc w8 [.string ys[j].bell, .int .i64 ys[j].x, .int .i64 ys[j].y, .int .i64 ys[j].z, .int .i64 ys[j].reach] 34 w8.heap.size rfl
            have hbA := belowA w8 (.cells #[.string ys[j].bell, .int .i64 ys[j].x, .int .i64 ys[j].y, .int .i64 ys[j].z, .int .i64 ys[j].reach] 34)
            obtain ⟨W, hW⟩ : ∃ W, W = w8.alloc (.cells #[.string ys[j].bell, .int .i64 ys[j].x, .int .i64 ys[j].y, .int .i64 ys[j].z, .int .i64 ys[j].reach] 34) := ⟨_, rfl⟩
            rw [← hW] at BX hbA ⊢
            clear hW
            have hW8 := HW8.out.trans (hbA.mono HW8.out.size)
            have hBR8 := HBR8.out.trans (hbA.mono HBR8.out.size)
            obtain ⟨b1, o1', e1, m1, x0, x1', x2, x3, x4⟩ := (RL.out.mono hW8).at hlt
            first | subst e1 | (simp only [Option.some.injEq, Addr.mk.injEq, and_true] at e1; obtain ⟨rfl, rfl⟩ := e1)
            obtain ⟨b2, o2', e2, m2, y0, y1, y2, y3, y4⟩ := (HR6.out.mono hBR8).at hlt
            first | subst e2 | (simp only [Option.some.injEq, Addr.mk.injEq, and_true] at e2; obtain ⟨rfl, rfl⟩ := e2)
            have z0 := BX.at' 0 _ rfl
            have z1 := BX.at' 1 _ rfl
            have z2 := BX.at' 2 _ rfl
            have z3 := BX.at' 3 _ rfl
            have z4 := BX.at' 4 _ rfl
            have lz := BX.lt
            clear BX hbA hW8
            go_quiet (fail)
            clear x0 x1' x2 x3 x4 y0 y1 y2 y3 y4 z0 z1 z2 z3 z4 lz m1 m2
            go_wp2
            go_roundw
            case rel => exact ⟨j + 1, by omega, by go_num, hBR8.trans ((Below.drawN _).mono hBR8.size)⟩
            case measure => simp [intOf]; omega
          · obtain rfl : j = ys.length := by omega
            go_wp2
            go_ret
            exact ⟨rfl, HB3.out.trans ((HB6.out.trans (hbr.mono HB6.out.size)).mono HB3.out.size)⟩

end Go.Proofs.YteaijhmgfddjiaaDoor
