/- Contracts of RatioOf of both packages. -/
import Derived.Test.YtijhlllajddlpaaDoorRatioL
import Derived.Test.YtijhlllajddlpaaDoorTouch
set_option linter.unusedSimpArgs false
set_option linter.unnecessarySimpa false
set_option linter.unusedVariables false
set_option maxRecDepth 100000
namespace Go.Proofs.YtijhlllajddlpaaDoor
open Go.RowKit

theorem ret_tup3i {a b c d e f : Int} (h : a = d) (k : b = e) (l : c = f) : Ending.returned (.tuple #[.int .i64 a, .int .i64 b, .int .i64 c]) = .returned (.tuple #[.int .i64 d, .int .i64 e, .int .i64 f]) := by rw [h, k, l]
theorem outs_take {x : ActD} {k : Nat} (h : k < x.levs.length) : (outsOf x).take (k + 1) = (outsOf x).take k ++ [x.levs[k].out] := by
  have h' : k < (outsOf x).length := by simpa [outsOf] using h
  rw [List.take_succ_eq_append_getElem h']; simp [outsOf]
theorem ins_take {x : ActD} {k : Nat} (h : k < x.levs.length) : (insOf x).take (k + 1) = (insOf x).take k ++ [x.levs[k].inn] := by
  have h' : k < (insOf x).length := by simpa [insOf] using h
  rw [List.take_succ_eq_append_getElem h']; simp [insOf]
theorem outs_all (x : ActD) : (outsOf x).take x.levs.length = outsOf x := List.take_of_length_le (by simp [outsOf])
theorem ins_all (x : ActD) : (insOf x).take x.levs.length = insOf x := List.take_of_length_le (by simp [insOf])

set_option maxHeartbeats 4000000 in
theorem implRatioOf_any (v : Value) (x : ActD) (w : World) (h : RdAct w v x) (_ : x.ok) (_ : x.levs.length ≤ 1048576) :
    Calls Tryd.prog 22 #[v] w fun e w' => e = .returned (.tuple #[.int .i64 (raT x), .int .i64 (raB x), .int .i64 (raC x)]) ∧ Below w.heap.size w w' := by
  obtain ⟨lv, rfl, hlv⟩ := h
  by_cases g : ActOk x
  rotate_left
  · obtain ⟨e1, e2, e3⟩ := ra_no g
    have g' : validActB x = false := by rw [← Bool.not_eq_true, validActB_iff]; exact g
    clear g
    rw [e1, e2, e3]
    clear e1 e2 e3
    go_enter Tryd.func22, Tryd.ntmps22
    go_wp2_with fail
    refine (implValidAct_any _ lv x _ ⟨rfl, hlv.mono (by (repeat (first | with_reducible exact Below.refl _ _ | with_reducible exact hbw | (with_reducible refine Below.setCell ?_ ?_ _; rotate_left; · first | exact Nat.le_refl _ | omega | (simp; done) | (simp; omega)) | (with_reducible refine Below.alloc ?_ ?_ _; rotate_left; · first | exact Nat.le_refl _ | omega | (simp; done) | (simp; omega)) | with_reducible refine below_drewN ?_ _ | with_reducible refine Below.drew ?_)))⟩).mono ?_
    rw [g']
    rintro e w1 ⟨rfl, hb⟩
    have hbw : Below w.heap.size w w1 := Below.trans (by (repeat (first | with_reducible exact Below.refl _ _ | with_reducible exact hbw | (with_reducible refine Below.setCell ?_ ?_ _; rotate_left; · first | exact Nat.le_refl _ | omega | (simp; done) | (simp; omega)) | (with_reducible refine Below.alloc ?_ ?_ _; rotate_left; · first | exact Nat.le_refl _ | omega | (simp; done) | (simp; omega)) | with_reducible refine below_drewN ?_ _ | with_reducible refine Below.drew ?_))) (hb.mono (by simp <;> omega))
    go_wp2
    go_ret3
    exact ⟨rfl, hbw⟩
  · obtain ⟨al, cl, rfl, hca, hcm, _⟩ := id hlv
    clear hca hcm
    have hn6 := g.len
    have g' := validActB_iff.2 g
    have HR0 := Lib.hid (red_start g)
    have HRO := Lib.hid (red_ok g)
    have G := Lib.hid g
    clear g
    go_enter Tryd.func22, Tryd.ntmps22
    go_wp2_with fail
    refine (implValidAct_any _ (.slice al x.levs.length cl) x _ ⟨rfl, hlv.mono (by (repeat (first | with_reducible exact Below.refl _ _ | with_reducible exact hbw | (with_reducible refine Below.setCell ?_ ?_ _; rotate_left; · first | exact Nat.le_refl _ | omega | (simp; done) | (simp; omega)) | (with_reducible refine Below.alloc ?_ ?_ _; rotate_left; · first | exact Nat.le_refl _ | omega | (simp; done) | (simp; omega)) | with_reducible refine below_drewN ?_ _ | with_reducible refine Below.drew ?_)))⟩).mono ?_
    rw [g']
    rintro e w1 ⟨rfl, hb⟩
    have hb1 : Below w.heap.size w w1 := Below.trans (by (repeat (first | with_reducible exact Below.refl _ _ | with_reducible exact hbw | (with_reducible refine Below.setCell ?_ ?_ _; rotate_left; · first | exact Nat.le_refl _ | omega | (simp; done) | (simp; omega)) | (with_reducible refine Below.alloc ?_ ?_ _; rotate_left; · first | exact Nat.le_refl _ | omega | (simp; done) | (simp; omega)) | with_reducible refine below_drewN ?_ _ | with_reducible refine Below.drew ?_))) (hb.mono (by simp <;> omega))
    obtain ⟨_, y1, _, _⟩ := agg4 (w := w) hb
    have hz1 : w.heap.size < w1.heap.size := by have := hb.size; simp at this; omega
    clear hb
    go_wp2_with fail
    go_loopw [5, 6, 22, 8] (fun os is i _ wr => ∃ (k : Nat) (a1 : Option Addr) (c1 : Nat) (a2 : Option Addr) (c2 : Nat), k ≤ x.levs.length ∧ i = .int .i64 (k : Int) ∧ os = .slice a1 k c1 ∧ is = .slice a2 k c2 ∧ Two wr (w.heap.size + 1) (.slice a1 k c1) (.slice a2 k c2) k ((outsOf x).take k, (insOf x).take k) ∧ Below w.heap.size w wr ∧ w.heap.size < wr.heap.size) (fun _ _ i _ _ => x.levs.length - (intOf i).toNat)
    case atStart => exact ⟨0, none, 0, none, 0, Nat.zero_le _, by go_num, rfl, rfl, ⟨rfl, rfl, by simpa using owns_nil w1 2 1 _, by simpa using owns_nil w1 2 1 _, .inl rfl⟩, hb1, hz1⟩
    case round =>
      obtain ⟨k, a1, c1, a2, c2, hk, rfl, rfl, rfl, hT, hb, hz⟩ := hrel
      have HT := Lib.hid hT; clear hT
      by_cases hlt : k < x.levs.length
      · obtain ⟨b1, o1, rfl, hB1, d0, d1⟩ := hlv.at hlt
        have d0 := cellB hb d0
        have d1 := cellB hb d1
        have HO := Lib.hid (outs_take hlt); have HI := Lib.hid (ins_take hlt)
        generalize x.levs[k].out = po at *
        generalize x.levs[k].inn = pi at *
        go_wp2_with fail
        refine wp_region_T (w.heap.size + 1) wr.heap.size 12 (by kernel_rfl) rfl ?_
        obtain ⟨W0, hW⟩ : ∃ W : World, W = (wr.alloc (.cells #[.int .i64 pi, .int .i64 po] 54)).drew := ⟨_, rfl⟩
        rw [← hW]
        have hbW : Below wr.heap.size wr W0 := by rw [hW]; (repeat (first | with_reducible exact Below.refl _ _ | with_reducible exact hbw | (with_reducible refine Below.setCell ?_ ?_ _; rotate_left; · first | exact Nat.le_refl _ | omega | (simp; done) | (simp; omega)) | (with_reducible refine Below.alloc ?_ ?_ _; rotate_left; · first | exact Nat.le_refl _ | omega | (simp; done) | (simp; omega)) | with_reducible refine below_drewN ?_ _ | with_reducible refine Below.drew ?_))
        have HZW := Lib.hid (show W0.heap.size = wr.heap.size + 1 by rw [hW]; simp)
        have hzW : wr.heap.size < W0.heap.size := by have := HZW.out; omega
        have z0 : W0.cell? ⟨wr.heap.size, 0, none⟩ = some (.int .i64 pi) := by rw [hW]; simp [go_sem]
        have z1 : W0.cell? ⟨wr.heap.size, 1, none⟩ = some (.int .i64 po) := by rw [hW]; simp [go_sem]
        have n0 : ∀ o y, (extT W0 (w.heap.size + 1) wr.heap.size y).cell? ⟨wr.heap.size, o, none⟩ = W0.cell? ⟨wr.heap.size, o, none⟩ := fun o y => cell?_extT hzW (.inr (Nat.le_refl _))
        have BR1 := Lib.hid (fun q hq => HT.out.r1.lt q hq)
        have BR2 := Lib.hid (fun q hq => HT.out.r2.lt q hq)
        have HTW := Lib.hid (HT.out.mono hbW)
        have HBW := Lib.hid (hb.trans (hbW.mono hb.size))
        clear hW HT hb hbW
        (with_reducible refine wpT_soft 0 (by kernel_rfl) (Touch.refl _ _ _) (fun K hK => ?_)); simp only [List.getElem?_toArray, List.getElem?_cons_zero, List.getElem?_cons_succ]; (first | (go_simp; refine hK _ ?_) | (simp only [undef]; go_simp; refine hK _ ?_)); clear hK K; (with_reducible refine wpT_soft 1 (by kernel_rfl) (Touch.refl _ _ _) (fun K hK => ?_)); simp only [List.getElem?_toArray, List.getElem?_cons_zero, List.getElem?_cons_succ]; (first | (go_simp; refine hK _ ?_) | (simp only [undef]; go_simp; refine hK _ ?_)); clear hK K; (with_reducible refine wpT_soft 2 (by kernel_rfl) (Touch.refl _ _ _) (fun K hK => ?_)); simp only [List.getElem?_toArray, List.getElem?_cons_zero, List.getElem?_cons_succ]; (first | (go_simp; refine hK _ ?_) | (simp only [undef]; go_simp; refine hK _ ?_)); clear hK K; (with_reducible refine wpT_soft 5 (by kernel_rfl) (Touch.refl _ _ _) (fun K hK => ?_)); simp only [List.getElem?_toArray, List.getElem?_cons_zero, List.getElem?_cons_succ]; (first | (go_simp; refine hK _ ?_) | (simp only [undef]; go_simp; refine hK _ ?_)); clear hK K; (with_reducible refine wpT_soft 6 (by kernel_rfl) (Touch.refl _ _ _) (fun K hK => ?_)); simp only [List.getElem?_toArray, List.getElem?_cons_zero, List.getElem?_cons_succ]; (first | (go_simp; refine hK _ ?_) | (simp only [undef]; go_simp; refine hK _ ?_)); clear hK K; (with_reducible refine wpT_soft 7 (by kernel_rfl) (Touch.refl _ _ _) (fun K hK => ?_)); simp only [List.getElem?_toArray, List.getElem?_cons_zero, List.getElem?_cons_succ]; (first | (go_simp; refine hK _ ?_) | (simp only [undef]; go_simp; refine hK _ ?_)); clear hK K
        clear n0
        (with_reducible refine wpT_two 3 8 (by kernel_rfl) ?_ ?_) <;> simp only [List.getElem?_toArray, List.getElem?_cons_zero, List.getElem?_cons_succ]
        · go_wp2_with fail
          refine ⟨(Touch.refl _ _ _).alloc _, ?_⟩
          (with_reducible refine wpT_two 4 8 (by kernel_rfl) ?_ ?_) <;> simp only [List.getElem?_toArray, List.getElem?_cons_zero, List.getElem?_cons_succ]
          · skip
            refine append_sl (w := (W0.alloc (.cells #[.int .i64 po] 2))) rfl _ _ 52 rfl (w.heap.size + 1) 2 (.int .i64 0) 1 8 Tryd.underlying52 info_int rfl (by decide) _ k _ rfl (owns_mono HTW.out.r1 (belowA W0 _)) _ 1 [.int .i64 po] rfl (sl_lit W0 [.int .i64 po] 2 1 _ rfl (by simp [maxLen])) rfl (by simp [Value.oneCell']) (by omega) (by decide) (by first | omega | (simp; omega)) ?_
            intro a5 c5 w5 ho5 hg5 hb5 hn5
            have HTO := Lib.hid (show Touch (w.heap.size + 1) wr.heap.size W0 w5 from ((Touch.refl _ _ _).alloc _).trans (Touch.of_grown hg5 (fun q hq => BR1.out q hq)))
            have HG5 := Lib.hid hg5
            have HO5 := Lib.hid ho5
            have HD5 := Lib.hid (Apt.keep HTW.out.ap (owns_mono HTW.out.r2 (belowA W0 _)) hg5)
            have HP5 := Lib.hid ((Apt.next' HTW.out.ap hn5 (fun q hq => by have := (BR2.out q hq).2; first | omega | (simp; omega))).symm)
            have hz5 : W0.heap.size ≤ w5.heap.size := HTO.out.size
            have HB5 := Lib.hid (show Below w.heap.size w w5 from HBW.out.trans (⟨HTO.out.os, HTO.out.tape, HTO.out.output, HTO.out.size, fun q hq => HTO.out.block q (by omega) (.inl (by omega))⟩ : Below w.heap.size W0 w5))
            clear ho5 hg5 hb5 hn5
            go_wp2_with fail
            refine ⟨HTO.out, ?_⟩
            (with_reducible refine wpT_one 8 (by kernel_rfl) ?_); simp only [List.getElem?_toArray, List.getElem?_cons_zero, List.getElem?_cons_succ]
            go_wp2_with fail
            refine ⟨HTO.out.alloc _, ?_⟩
            (with_reducible refine wpT_one 9 (by kernel_rfl) ?_); simp only [List.getElem?_toArray, List.getElem?_cons_zero, List.getElem?_cons_succ]
            refine append_sl (w := (w5.alloc (.cells #[.int .i64 pi] 2))) rfl _ _ 52 rfl (w.heap.size + 1) 2 (.int .i64 0) 1 8 Tryd.underlying52 info_int rfl (by decide) _ k _ rfl (owns_mono HD5.out (belowA w5 _)) _ 1 [.int .i64 pi] rfl (sl_lit w5 [.int .i64 pi] 2 1 _ rfl (by simp [maxLen])) rfl (by simp [Value.oneCell']) (by omega) (by decide) (by first | omega | (simp; omega)) ?_
            intro a6 c6 w6 ho6 hg6 hb6 hn6
            have HT6 := Lib.hid (show Touch (w.heap.size + 1) wr.heap.size W0 w6 from (HTO.out.alloc _).trans (Touch.of_grown hg6 (fun q hq => BR2.out q hq)))
            have HTN := Lib.hid (show Two w6 (w.heap.size + 1) (.slice a5 (k + 1) c5) (.slice a6 (k + 1) c6) (k + 1) ((outsOf x).take (k + 1), (insOf x).take (k + 1)) from
              ⟨by rw [HO.out, List.length_append, HTW.out.len1]; rfl, by rw [HI.out, List.length_append, HTW.out.len2]; rfl, by rw [HO.out]; simpa using Apt.keep HP5.out (owns_mono HO5.out (belowA w5 _)) hg6, by rw [HI.out]; simpa using ho6, (Apt.next' HP5.out hn6 (fun q hq => by have := (HO5.out.lt q hq).2; first | omega | (simp; omega))).symm⟩)
            have HB6 := Lib.hid (show Below w.heap.size w w6 from HBW.out.trans (⟨HT6.out.os, HT6.out.tape, HT6.out.output, HT6.out.size, fun q hq => HT6.out.block q (by omega) (.inl (by omega))⟩ : Below w.heap.size W0 w6))
            have hz6 : W0.heap.size ≤ w6.heap.size := HT6.out.size
            clear ho6 hg6 hb6 hn6
            go_wp2_with fail
            refine ⟨HT6.out, ?_⟩
            (with_reducible refine wpT_soft 10 (by kernel_rfl) (HT6.out) (fun K hK => ?_)); simp only [List.getElem?_toArray, List.getElem?_cons_zero, List.getElem?_cons_succ]; (first | (go_simp; refine hK _ ?_) | (simp only [undef]; go_simp; refine hK _ ?_)); clear hK K; (with_reducible refine wpT_soft 11 (by kernel_rfl) (HT6.out) (fun K hK => ?_)); simp only [List.getElem?_toArray, List.getElem?_cons_zero, List.getElem?_cons_succ]; (first | (go_simp; refine hK _ ?_) | (simp only [undef]; go_simp; refine hK _ ?_)); clear hK K
            ((with_reducible refine wpT_done (by kernel_rfl) ?_ _); refine NoPanic.normal ?_)
            go_wp2
            go_roundw
            case rel => exact ⟨k + 1, a5, c5, a6, c6, by omega, by go_num, rfl, rfl, HTN.out, HB6.out, by omega⟩
            case measure => simp [intOf] <;> omega
          · go_wp2_with fail
            refine ⟨((Touch.refl _ _ _).alloc _).alloc _, ?_⟩
            have HL2 := Lib.hid (sl_lit (W0.alloc (.cells #[.int .i64 po] 2)) [.int .i64 pi] 2 1 (W0.heap.size + 1) (by simp) (by simp [maxLen]))
            (with_reducible refine wpT_one 4 (by kernel_rfl) ?_); simp only [List.getElem?_toArray, List.getElem?_cons_zero, List.getElem?_cons_succ]
            refine append_sl (w := ((W0.alloc (.cells #[.int .i64 po] 2)).alloc (.cells #[.int .i64 pi] 2))) rfl _ _ 52 rfl (w.heap.size + 1) 2 (.int .i64 0) 1 8 Tryd.underlying52 info_int rfl (by decide) _ k _ rfl (owns_mono HTW.out.r1 ((belowA W0 _).trans ((belowA _ _).mono (by simp)))) _ 1 [.int .i64 po] rfl ((sl_lit W0 [.int .i64 po] 2 1 _ rfl (by simp [maxLen])).mono (belowA _ _)) rfl (by simp [Value.oneCell']) (by omega) (by decide) (by first | omega | (simp; omega)) ?_
            intro a5 c5 w5 ho5 hg5 hb5 hn5
            have HTO := Lib.hid (show Touch (w.heap.size + 1) wr.heap.size W0 w5 from (((Touch.refl _ _ _).alloc _).alloc _).trans (Touch.of_grown hg5 (fun q hq => BR1.out q hq)))
            have HG5 := Lib.hid hg5
            have HO5 := Lib.hid ho5
            have HD5 := Lib.hid (Apt.keep HTW.out.ap (owns_mono HTW.out.r2 ((belowA W0 _).trans ((belowA _ _).mono (by simp)))) hg5)
            have HP5 := Lib.hid ((Apt.next' HTW.out.ap hn5 (fun q hq => by have := (BR2.out q hq).2; first | omega | (simp; omega))).symm)
            have hz5 : W0.heap.size ≤ w5.heap.size := HTO.out.size
            have HB5 := Lib.hid (show Below w.heap.size w w5 from HBW.out.trans (⟨HTO.out.os, HTO.out.tape, HTO.out.output, HTO.out.size, fun q hq => HTO.out.block q (by omega) (.inl (by omega))⟩ : Below w.heap.size W0 w5))
            clear ho5 hg5 hb5 hn5
            go_wp2_with fail
            refine ⟨HTO.out, ?_⟩
            have HL3 := Lib.hid (HL2.out.keepG HG5.out (fun e => by have := (BR1.out _ e).2; omega))
            (with_reducible refine wpT_one 9 (by kernel_rfl) ?_); simp only [List.getElem?_toArray, List.getElem?_cons_zero, List.getElem?_cons_succ]
            refine append_sl (w := w5) rfl _ _ 52 rfl (w.heap.size + 1) 2 (.int .i64 0) 1 8 Tryd.underlying52 info_int rfl (by decide) _ k _ rfl (owns_mono HD5.out (Below.refl _ _)) _ 1 [.int .i64 pi] rfl HL3.out rfl (by simp [Value.oneCell']) (by omega) (by decide) (by first | omega | (simp; omega)) ?_
            intro a6 c6 w6 ho6 hg6 hb6 hn6
            have HT6 := Lib.hid (show Touch (w.heap.size + 1) wr.heap.size W0 w6 from HTO.out.trans (Touch.of_grown hg6 (fun q hq => BR2.out q hq)))
            have HTN := Lib.hid (show Two w6 (w.heap.size + 1) (.slice a5 (k + 1) c5) (.slice a6 (k + 1) c6) (k + 1) ((outsOf x).take (k + 1), (insOf x).take (k + 1)) from
              ⟨by rw [HO.out, List.length_append, HTW.out.len1]; rfl, by rw [HI.out, List.length_append, HTW.out.len2]; rfl, by rw [HO.out]; simpa using Apt.keep HP5.out (owns_mono HO5.out (Below.refl _ _)) hg6, by rw [HI.out]; simpa using ho6, (Apt.next' HP5.out hn6 (fun q hq => by have := (HO5.out.lt q hq).2; first | omega | (simp; omega))).symm⟩)
            have HB6 := Lib.hid (show Below w.heap.size w w6 from HBW.out.trans (⟨HT6.out.os, HT6.out.tape, HT6.out.output, HT6.out.size, fun q hq => HT6.out.block q (by omega) (.inl (by omega))⟩ : Below w.heap.size W0 w6))
            have hz6 : W0.heap.size ≤ w6.heap.size := HT6.out.size
            clear ho6 hg6 hb6 hn6
            go_wp2_with fail
            refine ⟨HT6.out, ?_⟩
            (with_reducible refine wpT_soft 10 (by kernel_rfl) (HT6.out) (fun K hK => ?_)); simp only [List.getElem?_toArray, List.getElem?_cons_zero, List.getElem?_cons_succ]; (first | (go_simp; refine hK _ ?_) | (simp only [undef]; go_simp; refine hK _ ?_)); clear hK K; (with_reducible refine wpT_soft 11 (by kernel_rfl) (HT6.out) (fun K hK => ?_)); simp only [List.getElem?_toArray, List.getElem?_cons_zero, List.getElem?_cons_succ]; (first | (go_simp; refine hK _ ?_) | (simp only [undef]; go_simp; refine hK _ ?_)); clear hK K
            ((with_reducible refine wpT_done (by kernel_rfl) ?_ _); refine NoPanic.normal ?_)
            go_wp2
            go_roundw
            case rel => exact ⟨k + 1, a5, c5, a6, c6, by omega, by go_num, rfl, rfl, HTN.out, HB6.out, by omega⟩
            case measure => simp [intOf] <;> omega
        · go_wp2_with fail
          refine ⟨(Touch.refl _ _ _).alloc _, ?_⟩
          have HL1 := Lib.hid (sl_lit W0 [.int .i64 pi] 2 1 _ rfl (by simp [maxLen]))
          (with_reducible refine wpT_one 3 (by kernel_rfl) ?_); simp only [List.getElem?_toArray, List.getElem?_cons_zero, List.getElem?_cons_succ]
          go_wp2_with fail
          refine ⟨((Touch.refl _ _ _).alloc _).alloc _, ?_⟩
          have HL2 := Lib.hid (HL1.out.mono (belowA (W0.alloc (.cells #[.int .i64 pi] 2)) (.cells #[.int .i64 po] 2)))
          (with_reducible refine wpT_one 4 (by kernel_rfl) ?_); simp only [List.getElem?_toArray, List.getElem?_cons_zero, List.getElem?_cons_succ]
          refine append_sl (w := ((W0.alloc (.cells #[.int .i64 pi] 2)).alloc (.cells #[.int .i64 po] 2))) rfl _ _ 52 rfl (w.heap.size + 1) 2 (.int .i64 0) 1 8 Tryd.underlying52 info_int rfl (by decide) _ k _ rfl (owns_mono HTW.out.r1 ((belowA W0 _).trans ((belowA _ _).mono (by simp)))) _ 1 [.int .i64 po] rfl (sl_lit (W0.alloc (.cells #[.int .i64 pi] 2)) [.int .i64 po] 2 1 (W0.heap.size + 1) (by simp) (by simp [maxLen])) rfl (by simp [Value.oneCell']) (by omega) (by decide) (by first | omega | (simp; omega)) ?_
          intro a5 c5 w5 ho5 hg5 hb5 hn5
          have HTO := Lib.hid (show Touch (w.heap.size + 1) wr.heap.size W0 w5 from (((Touch.refl _ _ _).alloc _).alloc _).trans (Touch.of_grown hg5 (fun q hq => BR1.out q hq)))
          have HG5 := Lib.hid hg5
          have HO5 := Lib.hid ho5
          have HD5 := Lib.hid (Apt.keep HTW.out.ap (owns_mono HTW.out.r2 ((belowA W0 _).trans ((belowA _ _).mono (by simp)))) hg5)
          have HP5 := Lib.hid ((Apt.next' HTW.out.ap hn5 (fun q hq => by have := (BR2.out q hq).2; first | omega | (simp; omega))).symm)
          have hz5 : W0.heap.size ≤ w5.heap.size := HTO.out.size
          have HB5 := Lib.hid (show Below w.heap.size w w5 from HBW.out.trans (⟨HTO.out.os, HTO.out.tape, HTO.out.output, HTO.out.size, fun q hq => HTO.out.block q (by omega) (.inl (by omega))⟩ : Below w.heap.size W0 w5))
          clear ho5 hg5 hb5 hn5
          go_wp2_with fail
          refine ⟨HTO.out, ?_⟩
          have HL3 := Lib.hid (HL2.out.keepG HG5.out (fun e => by have := (BR1.out _ e).2; omega))
          (with_reducible refine wpT_one 9 (by kernel_rfl) ?_); simp only [List.getElem?_toArray, List.getElem?_cons_zero, List.getElem?_cons_succ]
          refine append_sl (w := w5) rfl _ _ 52 rfl (w.heap.size + 1) 2 (.int .i64 0) 1 8 Tryd.underlying52 info_int rfl (by decide) _ k _ rfl (owns_mono HD5.out (Below.refl _ _)) _ 1 [.int .i64 pi] rfl HL3.out rfl (by simp [Value.oneCell']) (by omega) (by decide) (by first | omega | (simp; omega)) ?_
          intro a6 c6 w6 ho6 hg6 hb6 hn6
          have HT6 := Lib.hid (show Touch (w.heap.size + 1) wr.heap.size W0 w6 from HTO.out.trans (Touch.of_grown hg6 (fun q hq => BR2.out q hq)))
          have HTN := Lib.hid (show Two w6 (w.heap.size + 1) (.slice a5 (k + 1) c5) (.slice a6 (k + 1) c6) (k + 1) ((outsOf x).take (k + 1), (insOf x).take (k + 1)) from
            ⟨by rw [HO.out, List.length_append, HTW.out.len1]; rfl, by rw [HI.out, List.length_append, HTW.out.len2]; rfl, by rw [HO.out]; simpa using Apt.keep HP5.out (owns_mono HO5.out (Below.refl _ _)) hg6, by rw [HI.out]; simpa using ho6, (Apt.next' HP5.out hn6 (fun q hq => by have := (HO5.out.lt q hq).2; first | omega | (simp; omega))).symm⟩)
          have HB6 := Lib.hid (show Below w.heap.size w w6 from HBW.out.trans (⟨HT6.out.os, HT6.out.tape, HT6.out.output, HT6.out.size, fun q hq => HT6.out.block q (by omega) (.inl (by omega))⟩ : Below w.heap.size W0 w6))
          have hz6 : W0.heap.size ≤ w6.heap.size := HT6.out.size
          clear ho6 hg6 hb6 hn6
          go_wp2_with fail
          refine ⟨HT6.out, ?_⟩
          (with_reducible refine wpT_soft 10 (by kernel_rfl) (HT6.out) (fun K hK => ?_)); simp only [List.getElem?_toArray, List.getElem?_cons_zero, List.getElem?_cons_succ]; (first | (go_simp; refine hK _ ?_) | (simp only [undef]; go_simp; refine hK _ ?_)); clear hK K; (with_reducible refine wpT_soft 11 (by kernel_rfl) (HT6.out) (fun K hK => ?_)); simp only [List.getElem?_toArray, List.getElem?_cons_zero, List.getElem?_cons_succ]; (first | (go_simp; refine hK _ ?_) | (simp only [undef]; go_simp; refine hK _ ?_)); clear hK K
          ((with_reducible refine wpT_done (by kernel_rfl) ?_ _); refine NoPanic.normal ?_)
          go_wp2
          go_roundw
          case rel => exact ⟨k + 1, a5, c5, a6, c6, by omega, by go_num, rfl, rfl, HTN.out, HB6.out, by omega⟩
          case measure => simp [intOf] <;> omega
      · obtain rfl : k = x.levs.length := by omega
        have hT2 := HT.out
        rw [outs_all, ins_all] at hT2
        have HT2 := Lib.hid hT2; have HBW := Lib.hid hb
        obtain ⟨wo, hwo⟩ : ∃ wo : World, wo = wr := ⟨_, rfl⟩
        subst hwo
        clear hT2 hb HT
        go_wp2_with fail
        go_loopw [39, 9, 10, 11] (fun i _ _ _ wr => ∃ (k : Nat) (s : List Int × List Int), k ≤ x.levs.length ∧ i = .int .i64 (k : Int) ∧ s = redI x.levs.length k (outsOf x, insOf x) ∧ Two wr (w.heap.size + 1) (.slice a1 x.levs.length c1) (.slice a2 x.levs.length c2) x.levs.length s ∧ Below w.heap.size w wr) (fun i _ _ _ _ => x.levs.length - (intOf i).toNat)
        case atStart => exact ⟨0, _, Nat.zero_le _, by go_num, rfl, HT2.out, HBW.out⟩
        case round =>
          clear HT2 HBW
          obtain ⟨k, s, hk, rfl, hs, hT, hb⟩ := hrel
          have HT := Lib.hid hT; have HS := Lib.hid hs; have HB0 := Lib.hid hb; clear hT hs hb
          obtain ⟨wo2, hwo2⟩ : ∃ wo : World, wo = wr := ⟨_, rfl⟩
          subst hwo2
          by_cases hlt : k < x.levs.length
          · go_wp2_with fail
            go_loopw [44, 10, 11] (fun j _ _ wr => ∃ (m : Nat) (s : List Int × List Int), m ≤ x.levs.length ∧ j = .int .i64 (m : Int) ∧ s = redJ k m (redI x.levs.length k (outsOf x, insOf x)) ∧ Two wr (w.heap.size + 1) (.slice a1 x.levs.length c1) (.slice a2 x.levs.length c2) x.levs.length s ∧ Below w.heap.size w wr) (fun j _ _ _ => x.levs.length - (intOf j).toNat)
            case atStart => exact ⟨0, _, Nat.zero_le _, by go_num, rfl, HS.out ▸ HT.out, HB0.out⟩
            case round =>
              clear HT HS HB0
              obtain ⟨m, s, hm, rfl, hs, hT, hb⟩ := hrel
              have HS := Lib.hid hs
              by_cases hmt : m < x.levs.length
              · have hok := ((HR0.out.I k (by omega)).J hlt m hm)
                rw [← hs] at hok
                obtain ⟨h1, h2, h3, h4⟩ := hok
                have p1 := arms_at h3 (show k < s.1.length by omega)
                have p2 := arms_at h4 (show m < s.2.length by omega)
                have HN := Lib.hid (show (s.1.set k (s.1.getD k 0 / gcdI (s.1.getD k 0) (s.2.getD m 0)), s.2.set m (s.2.getD m 0 / gcdI (s.1.getD k 0) (s.2.getD m 0))) = redJ k (m + 1) (redI x.levs.length k (outsOf x, insOf x)) by rw [hs]; rfl)
                obtain ⟨g1, g2, rfl, rfl, gne, gb1, gb2, gl1, gl2, u1, u2, fz1, fz2, hst⟩ := hT.at hlt hmt
                have HST := Lib.hid hst
                generalize s.1.getD k 0 = p at *
                generalize s.2.getD m 0 = q at *
                obtain ⟨p11, p12⟩ := p1
                obtain ⟨p21, p22⟩ := p2
                obtain ⟨q1, q2, q3⟩ := gcdI_bd p11 p21
                have HG := Lib.hid (show gcdI p q = gcdI p q from rfl)
                obtain ⟨d, hd⟩ : ∃ d, d = gcdI p q := ⟨_, rfl⟩
                rw [← hd] at q1 q2 q3
                have HD := Lib.hid hd
                have n1 : ¬ d = 0 := by omega
                have d1 := div_bd p11 q1 q2 p12
                have d2 := div_bd p21 q1 q3 p22
                obtain ⟨x1, x2⟩ := d1
                obtain ⟨x3, x4⟩ := d2
                have w1' : IntKind.i64.wrap (p.tdiv d) = p / d := by rw [Int.tdiv_eq_ediv_of_nonneg (by omega)]; exact IntWalk.i64_in _ (by omega)
                have w2' : IntKind.i64.wrap (q.tdiv d) = q / d := by rw [Int.tdiv_eq_ediv_of_nonneg (by omega)]; exact IntWalk.i64_in _ (by omega)
                have w3' : IntKind.i64.wrap (p / d) = p / d := IntWalk.i64_in _ (by omega)
                have w4' : IntKind.i64.wrap (q / d) = q / d := IntWalk.i64_in _ (by omega)
                have gne2 : ¬ g2 = g1 := fun e => gne e.symm
                have HNN := Lib.hid gne
                have n0 : ∀ o x, (ext wr none x).cell? ⟨g1, o, none⟩ = wr.cell? ⟨g1, o, none⟩ := fun o x => cell?_ext (w := wr) gl1 (by simp)
                have n2 : ∀ o x, (ext wr none x).cell? ⟨g2, o, none⟩ = wr.cell? ⟨g2, o, none⟩ := fun o x => cell?_ext (w := wr) gl2 (by simp)
                clear hst hs hd h1 h2 h3 h4 hT
                go_wp2_with fail
                refine wp_region_ord [(0, true), (1, true), (2, true), (3, true), (4, true), (5, true), (6, true), (7, true), (8, false), (9, true)] (none) (by kernel_rfl) (by kernel_rfl) ?_
                (repeat (with_reducible refine wpOrd_soft (fun K hK => ?_); simp only [List.getElem?_toArray, List.getElem?_cons_zero, List.getElem?_cons_succ]; first | (go_simp; refine hK _ ?_) | (simp only [undef]; go_simp; refine hK _ ?_); clear hK K))
                (with_reducible refine wpOrd_hard ?_; simp only [List.getElem?_toArray, List.getElem?_cons_zero, List.getElem?_cons_succ])
                go_wp2_with fail
                refine (gcd_any p q _ p11 p21 p12 p22).mono ?_
                rw [← HD.out]
                rintro e w5 ⟨rfl, nq, hw5⟩
                obtain rfl : w5 = wr.drewN (1 + nq) := by rw [hw5, ← World.drewN_drewN]; rfl
                clear hw5
                go_wp2_with fail
                refine ⟨grown_of_below (Q.below ⟨_, rfl⟩ _), ?_⟩
                (repeat (with_reducible refine wpOrd_soft (fun K hK => ?_); simp only [List.getElem?_toArray, List.getElem?_cons_zero, List.getElem?_cons_succ]; first | (go_simp; refine hK _ ?_) | (simp only [undef]; go_simp; refine hK _ ?_); clear hK K))
                (with_reducible refine wpOrd_nil ?_); refine NoPanic.normal ?_
                go_wp2
                go_roundw
                case rel => exact ⟨m + 1, _, by omega, by go_num, by rw [← HN.out, ← HD.out], HST.out _ _ _, ((below_drewN hb _).setCell (by simp only; omega) _).setCell (by simp only; omega) _⟩
                case measure => simp [intOf] <;> omega
              · obtain rfl : m = x.levs.length := by omega
                have HX := Lib.hid (show s = redI x.levs.length (k + 1) (outsOf x, insOf x) by rw [HS.out]; rfl)
                go_wp2
                go_roundw
                case rel => exact ⟨k + 1, s, by omega, by go_num, HX.out, hT, hb⟩
                case measure => simp [intOf] <;> omega
          · obtain rfl : k = x.levs.length := by omega
            have HX := Lib.hid (show s = redOf x from HS.out)
            have hTR := HT.out
            rw [HX.out] at hTR
            have HTR := Lib.hid hTR; clear hTR
            obtain ⟨l1, l2, h3, h4⟩ := HRO.out
            have i1 : Ints wo2 (.slice a1 x.levs.length c1) (redOf x).1 := by have := Ints.of_owns (zs := (redOf x).1) (by rw [l1]; exact HTR.out.r1); exact this
            have i2 : Ints wo2 (.slice a2 x.levs.length c2) (redOf x).2 := by have := Ints.of_owns (zs := (redOf x).2) (by rw [l2]; exact HTR.out.r2); exact this
            have I1 := Lib.hid i1; have I2 := Lib.hid i2
            have E1 := Lib.hid (show pr (redOf x).1 (redOf x).1.length = rTop x by rw [l1]; rfl)
            have E2 := Lib.hid (show pr (redOf x).2 (redOf x).2.length = rBot x by rw [l2]; rfl)
            have H3 := Lib.hid h3; have H4 := Lib.hid h4
            clear i1 i2 l1 l2 h3 h4
            by_cases c1' : rTop x ≤ 1000000000000
            · by_cases c2' : rBot x ≤ 1000000000000
              · obtain ⟨e1, e2, e3⟩ := ra_yes G.out (show rFit x from ⟨c1', c2'⟩)
                have F1 := Lib.hid e1; have F2 := Lib.hid e2; have F3 := Lib.hid e3
                have C1 := Lib.hid c1'; have C2 := Lib.hid c2'; clear e1 e2 e3 c1' c2'
                go_wp2_with fail
                refine (productOf_any _ (redOf x).1 _ I1.out H3.out true (rTop x) (by rw [E1.out]; simpa using C1.out) (by rw [E1.out]; rfl)).mono ?_
                rintro e w7 ⟨rfl, hq7⟩
                go_wp2_with fail
                refine (productOf_any _ (redOf x).2 _ (I2.out.q hq7) H4.out true (rBot x) (by rw [E2.out]; simpa using C2.out) (by rw [E2.out]; rfl)).mono ?_
                rintro e w8 ⟨rfl, hq8⟩
                have HF := Lib.hid (HB0.out.trans (((hq7.below _).trans (hq8.below _)).mono HB0.out.size))
                go_wp2
                go_ret3
                exact ⟨ret_tup3i (by first | (rw [F1.out]; done) | (rw [F1.out]; rfl)) (by first | (rw [F2.out]; done) | (rw [F2.out]; rfl)) (by first | (rw [F3.out]; done) | (rw [F3.out]; rfl)), HF.out⟩
              · obtain ⟨e1, e2, e3⟩ := ra_big G.out (show ¬ rFit x from fun h => c2' h.2)
                have F1 := Lib.hid e1; have F2 := Lib.hid e2; have F3 := Lib.hid e3
                have C1 := Lib.hid c1'; have C2 := Lib.hid c2'; clear e1 e2 e3 c1' c2'
                go_wp2_with fail
                refine (productOf_any _ (redOf x).1 _ I1.out H3.out true (rTop x) (by rw [E1.out]; simpa using C1.out) (by rw [E1.out]; rfl)).mono ?_
                rintro e w7 ⟨rfl, hq7⟩
                go_wp2_with fail
                refine (productOf_any _ (redOf x).2 _ (I2.out.q hq7) H4.out false 0 (by rw [E2.out]; exact noB (by have := C2.out; omega)) rfl).mono ?_
                rintro e w8 ⟨rfl, hq8⟩
                have HF := Lib.hid (HB0.out.trans (((hq7.below _).trans (hq8.below _)).mono HB0.out.size))
                go_wp2
                go_ret3
                exact ⟨ret_tup3i (by first | (rw [F1.out]; done) | (rw [F1.out]; rfl)) (by first | (rw [F2.out]; done) | (rw [F2.out]; rfl)) (by first | (rw [F3.out]; done) | (rw [F3.out]; rfl)), HF.out⟩
            · obtain ⟨e1, e2, e3⟩ := ra_big G.out (show ¬ rFit x from fun h => c1' h.1)
              have F1 := Lib.hid e1; have F2 := Lib.hid e2; have F3 := Lib.hid e3
              have C1 := Lib.hid c1'; clear e1 e2 e3 c1'
              by_cases c2' : rBot x ≤ 1000000000000
              · have C2 := Lib.hid c2'; clear c2'
                go_wp2_with fail
                refine (productOf_any _ (redOf x).1 _ I1.out H3.out false 0 (by rw [E1.out]; exact noB (by have := C1.out; omega)) rfl).mono ?_
                rintro e w7 ⟨rfl, hq7⟩
                go_wp2_with fail
                refine (productOf_any _ (redOf x).2 _ (I2.out.q hq7) H4.out true (rBot x) (by rw [E2.out]; simpa using C2.out) (by rw [E2.out]; rfl)).mono ?_
                rintro e w8 ⟨rfl, hq8⟩
                have HF := Lib.hid (HB0.out.trans (((hq7.below _).trans (hq8.below _)).mono HB0.out.size))
                go_wp2
                go_ret3
                exact ⟨ret_tup3i (by first | (rw [F1.out]; done) | (rw [F1.out]; rfl)) (by first | (rw [F2.out]; done) | (rw [F2.out]; rfl)) (by first | (rw [F3.out]; done) | (rw [F3.out]; rfl)), HF.out⟩
              · have C2 := Lib.hid c2'; clear c2'
                go_wp2_with fail
                refine (productOf_any _ (redOf x).1 _ I1.out H3.out false 0 (by rw [E1.out]; exact noB (by have := C1.out; omega)) rfl).mono ?_
                rintro e w7 ⟨rfl, hq7⟩
                go_wp2_with fail
                refine (productOf_any _ (redOf x).2 _ (I2.out.q hq7) H4.out false 0 (by rw [E2.out]; exact noB (by have := C2.out; omega)) rfl).mono ?_
                rintro e w8 ⟨rfl, hq8⟩
                have HF := Lib.hid (HB0.out.trans (((hq7.below _).trans (hq8.below _)).mono HB0.out.size))
                go_wp2
                go_ret3
                exact ⟨ret_tup3i (by first | (rw [F1.out]; done) | (rw [F1.out]; rfl)) (by first | (rw [F2.out]; done) | (rw [F2.out]; rfl)) (by first | (rw [F3.out]; done) | (rw [F3.out]; rfl)), HF.out⟩

end Go.Proofs.YtijhlllajddlpaaDoor
