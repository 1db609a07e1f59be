/- Contract of spec.ReverseTune. -/
import Derived.Test.YtfnbjegbaobpnaaSorted
import Derived.Test.YtfnbjegbaobpnaaRevI
import Derived.Test.YtfnbjegbaobpnaaTransS
set_option linter.unusedSimpArgs false
set_option linter.unnecessarySimpa false
set_option linter.unusedVariables false
set_option maxRecDepth 100000
namespace Go.Proofs.Ytfnbjegbaobpnaa
open Go.RowKit

theorem to_perm {name : ByteArray} {d d1 : List Ton} (p : d1.Perm d) : toV name d1 = toV name d ∧ toC name d1 = toC name d := by
  by_cases h : validTunB ⟨name, sortT d1⟩ = true
  · obtain ⟨e1, e2⟩ := to_yes ((sortT_perm d1).trans p) (sortT_srt d1) h
    obtain ⟨f1, f2⟩ := to_yes (sortT_perm d1) (sortT_srt d1) h
    exact ⟨f1.trans e1.symm, f2.trans e2.symm⟩
  · have h' : validTunB ⟨name, sortT d1⟩ = false := by simpa using h
    obtain ⟨e1, e2⟩ := to_no ((sortT_perm d1).trans p) (sortT_srt d1) h'
    obtain ⟨f1, f2⟩ := to_no (sortT_perm d1) (sortT_srt d1) h'
    exact ⟨f1.trans e1.symm, f2.trans e2.symm⟩

theorem rev_len (x : TunD) : (revV x).tones.length ≤ 1048576 := by
  unfold revV; split
  · exact to_len _ _
  · simp

set_option maxHeartbeats 2000000 in
theorem specReverseTune_any (v : Value) (x : TunD) (w : World) (h : RdTun w v x) (ok : x.ok) (hs : x.tones.length ≤ 1048576) :
    Calls Try.prog 43 #[v] w fun e w' => ∃ v', e = .returned (.tuple #[v', .int .i64 (revC x)]) ∧ OwnTun w.heap.size w'.heap.size w' v' (revV x) ∧ Below w.heap.size w w' := by
  obtain ⟨lv, rfl, hlv⟩ := h
  obtain ⟨a, ca, rfl, hca, hcm, _⟩ := id hlv
  have hn := ok.1
  by_cases g : validTunB x = true
  · obtain ⟨e1, e2⟩ := rev_yes g
    have TK := Lib.hid (validTunB_iff.1 g).tones
    have hln := tun_len g
    have E1 := Lib.hid e1; have E2 := Lib.hid e2; have G := Lib.hid g; clear e1 e2 g
    go_enter Try.func43, Try.ntmps43
    go_wp2_with fail
    refine (l25Ok_any _ (.slice a x.tones.length ca) x _ ⟨by simp [go_sem], by simp [go_sem], hlv.mono (by (repeat (first | with_reducible exact Below.refl _ _ | with_reducible exact hbw | (with_reducible refine Below.setCell ?_ ?_ _; rotate_left; · first | exact Nat.le_refl _ | omega | (simp; done) | (simp; omega)) | (with_reducible refine Below.alloc ?_ ?_ _; rotate_left; · first | exact Nat.le_refl _ | omega | (simp; done) | (simp; omega)) | with_reducible refine below_drewN ?_ _ | with_reducible refine Below.drew ?_))), hn⟩).mono ?_
    rintro e w1 ⟨rfl, hb⟩
    have HB := Lib.hid (show Below w.heap.size w w1 from Below.trans (by (repeat (first | with_reducible exact Below.refl _ _ | with_reducible exact hbw | (with_reducible refine Below.setCell ?_ ?_ _; rotate_left; · first | exact Nat.le_refl _ | omega | (simp; done) | (simp; omega)) | (with_reducible refine Below.alloc ?_ ?_ _; rotate_left; · first | exact Nat.le_refl _ | omega | (simp; done) | (simp; omega)) | with_reducible refine below_drewN ?_ _ | with_reducible refine Below.drew ?_))) (hb.mono (by simp <;> omega)))
    have hz : w.heap.size + 2 ≤ w1.heap.size := by have := hb.size; simp at this; omega
    have z0 : w1.cell? ⟨w.heap.size, 0, none⟩ = some (.string x.name) := cellB hb (by simp [go_sem])
    have z1 : w1.cell? ⟨w.heap.size, 1, none⟩ = some (.slice a x.tones.length ca) := cellB hb (by simp [go_sem])
    have r0 : w1.cell? ⟨w.heap.size + 1, 0, none⟩ = some (.string ⟨#[]⟩) := cellB hb (by simp [go_sem])
    have r1 : w1.cell? ⟨w.heap.size + 1, 1, none⟩ = some (.slice none 0 0) := cellB hb (by simp [go_sem])
    have f0 : w1.frozen? ⟨w.heap.size + 1, 0, none⟩ = false := frozenL hb (by simp) (by simp [go_sem])
    have f1 : w1.frozen? ⟨w.heap.size + 1, 1, none⟩ = false := frozenL hb (by simp) (by simp [go_sem])
    have hz0 : w.heap.size < w1.heap.size := by omega
    have hz2 : w.heap.size + 1 < w1.heap.size := by omega
    clear hb
    rw [G.out]
    go_wp2_with fail
    refine (l25End_any _ _ x _ ⟨z0, z1, hlv.mono HB.out, hn⟩ TK.out).mono ?_
    rintro e w2 ⟨rfl, hq⟩
    have hb2 : Below w1.heap.size w1 w2 := hq.below _
    have hz3 := hb2.size
    have z0 := cellB hb2 z0
    have z1 := cellB hb2 z1
    have r0 := cellB hb2 r0
    have r1 := cellB hb2 r1
    have f0 := frozenL hb2 (by simp; omega) f0
    have f1 := frozenL hb2 (by simp; omega) f1
    have HB2 := Lib.hid (HB.out.trans (hb2.mono HB.out.size))
    have hz4 : w.heap.size < w2.heap.size := by omega
    have hz5 : w.heap.size + 1 < w2.heap.size := by omega
    have hzw : w.heap.size ≤ w2.heap.size := by omega
    obtain ⟨en, hen⟩ : ∃ en, en = endOf x.tones := ⟨_, rfl⟩
    have hen2 : 0 ≤ en ∧ en ≤ 20000 := by rw [hen]; exact endOf_bd TK.out
    obtain ⟨en0, en1⟩ := hen2
    have EN := Lib.hid hen
    rw [← hen]
    clear hb2 hen hq
    go_wp2_with fail
    go_loopw [6, 7] (fun i _ wr => ∃ (k : Nat) (a' : Option Addr) (cap' : Nat), k ≤ x.tones.length ∧ i = .int .i64 (k : Int) ∧ wr.ownsRow (w2.heap.size + 1) 55 3 (.slice a' k cap') k (((x.tones.map (revF en)).take k).flatMap Ton.cells) ∧ Below w2.heap.size w2 wr ∧ w2.heap.size + 1 ≤ wr.heap.size ∧ wr.cell? ⟨w2.heap.size, 0, none⟩ = some (.string x.name) ∧ wr.cell? ⟨w2.heap.size, 1, none⟩ = some (.slice a' k cap') ∧ wr.frozen? ⟨w2.heap.size, 1, none⟩ = false) (fun i _ _ => x.tones.length - (intOf i).toNat)
    case atStart => exact ⟨0, none, 0, Nat.zero_le _, by go_num, by simpa using owns_nil _ _ _ _, by (repeat (first | with_reducible exact Below.refl _ _ | with_reducible exact hbw | (with_reducible refine Below.setCell ?_ ?_ _; rotate_left; · first | exact Nat.le_refl _ | omega | (simp; done) | (simp; omega)) | (with_reducible refine Below.alloc ?_ ?_ _; rotate_left; · first | exact Nat.le_refl _ | omega | (simp; done) | (simp; omega)) | with_reducible refine below_drewN ?_ _ | with_reducible refine Below.drew ?_)), by simp, by simp [go_sem], by simp [go_sem], by simp [go_sem]⟩
    case round =>
      obtain ⟨k, a', cap', hk, rfl, ho, hb, hz, d0, d1, df⟩ := hrel
      have HO := Lib.hid ho; clear ho
      have z0 := cellB hb z0
      have z1 := cellB hb z1
      have hzr : w.heap.size < wr.heap.size := by omega
      by_cases hlt : k < x.tones.length
      · obtain ⟨b1, o1, rfl, hB1, c0, c1, c2⟩ := ((hlv.mono HB2.out).mono hb).at hlt
        have l1 : b1 < wr.heap.size + 1 := by omega
        have l2 : w2.heap.size < wr.heap.size := by omega
        have l3 : w2.heap.size < wr.heap.size + 1 := by omega
        obtain ⟨ft1, ft2, ft3, ft4⟩ := (TK.out k hlt hlt).1.fits
        have q1 : IntKind.i64.wrap (en - x.tones[k].start) = en - x.tones[k].start := IntWalk.i64_in _ (by omega)
        have q2 : IntKind.i64.wrap (en - x.tones[k].start - x.tones[k].len) = en - x.tones[k].start - x.tones[k].len := IntWalk.i64_in _ (by omega)
        have HBr := Lib.hid hb
        clear ft1 ft2 ft3 ft4 hb
        go_wp2_with (at_builtin; refine append_one_at rfl _ _ 27 rfl (w2.heap.size + 1) 55 _ 3 24 Try.underlying27 info_Tone rfl (by decide) _ k _ rfl (owns_mono HO.out (by (repeat (first | with_reducible exact Below.refl _ _ | with_reducible exact hbw | (with_reducible refine Below.setCell ?_ ?_ _; rotate_left; · first | exact Nat.le_refl _ | omega | (simp; done) | (simp; omega)) | (with_reducible refine Below.alloc ?_ ?_ _; rotate_left; · first | exact Nat.le_refl _ | omega | (simp; done) | (simp; omega)) | with_reducible refine below_drewN ?_ _ | with_reducible refine Below.drew ?_)))) [.int .i64 (revF en x.tones[k]).note, .int .i64 (revF en x.tones[k]).start, .int .i64 (revF en x.tones[k]).len] rfl (by intro u hu; simp at hu; rcases hu with rfl | rfl | rfl <;> rfl) (wr.heap.size + 1) (by simp) rfl (by omega) (by decide) (by simp; omega) ?_)
        intro a5 cap5 w5 ho5 hg5 hb5 hat5
        have hst : Below (w2.heap.size + 1) wr w5 := Below.trans (Below.mono (B := wr.heap.size) (by (repeat (first | with_reducible exact Below.refl _ _ | with_reducible exact hbw | (with_reducible refine Below.setCell ?_ ?_ _; rotate_left; · first | exact Nat.le_refl _ | omega | (simp; done) | (simp; omega)) | (with_reducible refine Below.alloc ?_ ?_ _; rotate_left; · first | exact Nat.le_refl _ | omega | (simp; done) | (simp; omega)) | with_reducible refine below_drewN ?_ _ | with_reducible refine Below.drew ?_))) hz) hb5
        have hz5 := hst.size
        have d0' := cellL hst (by simp) d0
        have d1' := cellL hst (by simp) d1
        have df' := frozenL hst (by simp) df
        have ht : Touch w2.heap.size (w2.heap.size + 1) w5 (w5.setCell ⟨w2.heap.size, 1, none⟩ (.slice a5 (k + 1) cap5)) := (Touch.refl _ _ w5).setCell (p := ⟨w2.heap.size, 1, none⟩) (by simp) _
        have hlt5 : w2.heap.size < w5.heap.size := by omega
        have hbw5 : Below w2.heap.size w2 (w5.setCell ⟨w2.heap.size, 1, none⟩ (.slice a5 (k + 1) cap5)) := ht.below (HBr.out.trans (hst.mono (by omega))) (Nat.le_refl _) (by omega)
        have e0' : (w5.setCell ⟨w2.heap.size, 1, none⟩ (.slice a5 (k + 1) cap5)).cell? ⟨w2.heap.size, 0, none⟩ = some (.string x.name) := by simp [go_sem, d0', hlt5, df']
        have e1' : (w5.setCell ⟨w2.heap.size, 1, none⟩ (.slice a5 (k + 1) cap5)).cell? ⟨w2.heap.size, 1, none⟩ = some (.slice a5 (k + 1) cap5) := by simp [go_sem, d1', hlt5, df']
        have ef' : (w5.setCell ⟨w2.heap.size, 1, none⟩ (.slice a5 (k + 1) cap5)).frozen? ⟨w2.heap.size, 1, none⟩ = false := by simp [go_sem, hlt5, df']
        have ho6 := ownsRow_setCell_below (a := ⟨w2.heap.size, 1, none⟩) ho5 (by simp) (.slice a5 (k + 1) cap5)
        have EW := Lib.hid e0'; have EW1 := Lib.hid e1'; have EF := Lib.hid ef'; have BW := Lib.hid hbw5; have HO6 := Lib.hid ho6
        clear e0' e1' ef' hbw5 ho6 ht hst ho5 hg5 hb5 hat5 d0 d1 df
        go_wp2
        go_roundw
        case rel => exact ⟨k + 1, a5, cap5, by omega, by go_num, by rw [map_snoc _ (revF en) k hlt]; exact HO6.out, BW.out, by simp [World.setCell]; omega, EW.out, EW1.out, EF.out⟩
        case measure => simp [intOf] <;> omega
      · obtain rfl : k = x.tones.length := by omega
        have e0 : (x.tones.map (revF en)).take x.tones.length = x.tones.map (revF en) := List.take_of_length_le (by simp)
        have ho := HO.out
        rw [e0] at ho
        have HBr := Lib.hid hb
        have ho1 : wr.ownsRow (w2.heap.size + 1) 55 3 (.slice a' (x.tones.map (revF en)).length cap') (x.tones.map (revF en)).length ((x.tones.map (revF en)).flatMap Ton.cells) := by rw [List.length_map]; exact ho
        have hto : Tons wr (.slice a' x.tones.length cap') (x.tones.map (revF en)) := by have := Tons.of_owns ho1; rwa [List.length_map] at this
        clear ho ho1 e0 HO hb
        go_wp2_with fail
        refine (l25Sorted_any _ (x.tones.map (revF en)) _ hto (by rw [List.length_map]; exact hs)).mono ?_
        rintro e w4 ⟨v4, dd, rfl, hp4, hs4, ho4, hb4⟩
        obtain ⟨a4, cap4, rfl⟩ := ho4.form
        rw [List.length_map] at ho4 ⊢
        have hl4 : dd.length = x.tones.length := by rw [hp4.length_eq, List.length_map]
        have hz4 := hb4.size
        have d0' := cellB hb4 d0
        have d1' := cellB hb4 d1
        have df' := frozenL hb4 (by simp; omega) df
        have r0 := cellB hb4 (cellB HBr.out r0)
        have r1 := cellB hb4 (cellB HBr.out r1)
        have f0 := frozenL hb4 (by simp; omega) (frozenL HBr.out (by simp; omega) f0)
        have f1 := frozenL hb4 (by simp; omega) (frozenL HBr.out (by simp; omega) f1)
        have l4 : w2.heap.size < w4.heap.size := by omega
        have l5 : w.heap.size + 1 < w4.heap.size := by omega
        have n1 : ¬ w.heap.size + 1 = w2.heap.size := by omega
        have HO4 := Lib.hid ho4
        have HP4 := Lib.hid hp4; have HS4 := Lib.hid hs4; have HL4 := Lib.hid hl4
        have HB4 := Lib.hid (HBr.out.trans (hb4.mono (by omega)))
        clear ho4 hp4 hs4 hl4 hb4 d0 d1 df hto
        go_wp2_with fail
        have hO5 : OwnRow w2.heap.size (w4.setCell ⟨w2.heap.size, 1, none⟩ (.slice a4 x.tones.length cap4)).heap.size (w4.setCell ⟨w2.heap.size, 1, none⟩ (.slice a4 x.tones.length cap4)) 55 3 (.slice a4 x.tones.length cap4) dd.length (dd.flatMap Ton.cells) := by
          have h1 := HO4.out.setCell (p := ⟨w2.heap.size, 1, none⟩) (by simp; omega) (.slice a4 x.tones.length cap4)
          rw [HL4.out]
          exact h1.wide (by omega) (by simp [World.setCell])
        have HO5 := Lib.hid hO5; clear hO5
        refine (l25Done_any w2.heap.size _ (.slice a4 x.tones.length cap4) ⟨x.name, dd⟩ _ rfl HO5.out hn (by simp [World.setCell]; omega) HS4.out).mono ?_
        rintro e w5 ⟨v5, rfl, ho5, hb5⟩
        obtain ⟨tv, htv⟩ : ∃ tv, tv = toV x.name (x.tones.map (revF en)) := ⟨_, rfl⟩
        obtain ⟨tc, htc⟩ : ∃ tc, tc = toC x.name (x.tones.map (revF en)) := ⟨_, rfl⟩
        obtain ⟨pp1, pp2⟩ := to_perm (name := x.name) HP4.out
        rw [pp1, ← htv] at ho5
        rw [pp2, ← htc]
        obtain ⟨c5, cap5, rfl⟩ := ho5.form
        have hbs : Below w4.heap.size (w4.setCell ⟨w2.heap.size, 1, none⟩ (.slice a4 x.tones.length cap4)) w5 := hb5.mono (by simp [World.setCell])
        have hz5 := hbs.size
        have hs5 : w4.heap.size ≤ w5.heap.size := by simpa [World.setCell] using hz5
        have r0 := cellL hbs (by simp; omega) (show (w4.setCell ⟨w2.heap.size, 1, none⟩ (.slice a4 x.tones.length cap4)).cell? ⟨w.heap.size + 1, 0, none⟩ = some (.string ⟨#[]⟩) by simp [go_sem, n1, r0])
        have r1 := cellL hbs (by simp; omega) (show (w4.setCell ⟨w2.heap.size, 1, none⟩ (.slice a4 x.tones.length cap4)).cell? ⟨w.heap.size + 1, 1, none⟩ = some (.slice none 0 0) by simp [go_sem, n1, r1])
        have f0 := frozenL hbs (by simp; omega) (show (w4.setCell ⟨w2.heap.size, 1, none⟩ (.slice a4 x.tones.length cap4)).frozen? ⟨w.heap.size + 1, 0, none⟩ = false by simp [go_sem, f0])
        have f1 := frozenL hbs (by simp; omega) (show (w4.setCell ⟨w2.heap.size, 1, none⟩ (.slice a4 x.tones.length cap4)).frozen? ⟨w.heap.size + 1, 1, none⟩ = false by simp [go_sem, f1])
        have hz6 : w.heap.size + 1 < w5.heap.size := by omega
        have hbq : Below w2.heap.size w2 (w4.setCell ⟨w2.heap.size, 1, none⟩ (.slice a4 x.tones.length cap4)) := by have hbw := HB4.out; (repeat (first | with_reducible exact Below.refl _ _ | with_reducible exact hbw | (with_reducible refine Below.setCell ?_ ?_ _; rotate_left; · first | exact Nat.le_refl _ | omega | (simp; done) | (simp; omega)) | (with_reducible refine Below.alloc ?_ ?_ _; rotate_left; · first | exact Nat.le_refl _ | omega | (simp; done) | (simp; omega)) | with_reducible refine below_drewN ?_ _ | with_reducible refine Below.drew ?_))
        have HB5 := Lib.hid (HB2.out.trans ((hbq.trans (hbs.mono (by omega))).mono (by omega)))
        have HO6 := Lib.hid ho5
        have TV := Lib.hid htv; have TC := Lib.hid htc
        clear hb5 ho5 hbs hbq d0' d1' df' pp1 pp2 htv htc
        go_wp2
        refine bodyPost_ret (v := .tuple #[.agg #[.string tv.name, .slice c5 tv.tones.length cap5], .int .i64 tc]) (by simp [results, Try.results43, go_sem, hz6, r0, r1]) rfl ⟨_, by rw [E2.out, ← EN.out, TC.out], ?_, ?_⟩
        · rw [E1.out, ← EN.out]
          rw [← TV.out]
          refine (HO6.out.touch (B' := w.heap.size + 1) (E' := w.heap.size + 2) ?_ (Or.inr (by omega))).wide (by omega) (by simp)
          have htc := Touch.refl (w.heap.size + 1) (w.heap.size + 2) w5
          (repeat (first | with_reducible exact Touch.refl _ _ _ | with_reducible exact htc | (with_reducible refine Touch.setCell ?_ ?_ _; rotate_left; · (simp only; omega)) | (with_reducible refine Touch.setNew ?_ ?_ _; rotate_left; · (first | (simp only; omega) | (simp; done) | (simp; omega))) | with_reducible refine Touch.alloc ?_ _ | with_reducible refine Touch.drewN ?_ _ | with_reducible refine Touch.drew ?_))
        · have hbw := HB5.out
          (repeat (first | with_reducible exact Below.refl _ _ | with_reducible exact hbw | (with_reducible refine Below.setCell ?_ ?_ _; rotate_left; · first | exact Nat.le_refl _ | omega | (simp; done) | (simp; omega)) | (with_reducible refine Below.alloc ?_ ?_ _; rotate_left; · first | exact Nat.le_refl _ | omega | (simp; done) | (simp; omega)) | with_reducible refine below_drewN ?_ _ | with_reducible refine Below.drew ?_))
  · obtain ⟨e1, e2⟩ := rev_inv g
    have E1 := Lib.hid e1; have E2 := Lib.hid e2; have G := Lib.hid (show validTunB x = false by simpa using g); clear e1 e2 g
    go_enter Try.func43, Try.ntmps43
    go_wp2_with fail
    refine (l25Ok_any _ (.slice a x.tones.length ca) x _ ⟨by simp [go_sem], by simp [go_sem], hlv.mono (by (repeat (first | with_reducible exact Below.refl _ _ | with_reducible exact hbw | (with_reducible refine Below.setCell ?_ ?_ _; rotate_left; · first | exact Nat.le_refl _ | omega | (simp; done) | (simp; omega)) | (with_reducible refine Below.alloc ?_ ?_ _; rotate_left; · first | exact Nat.le_refl _ | omega | (simp; done) | (simp; omega)) | with_reducible refine below_drewN ?_ _ | with_reducible refine Below.drew ?_))), hn⟩).mono ?_
    rintro e w1 ⟨rfl, hb⟩
    have HB := Lib.hid (show Below w.heap.size w w1 from Below.trans (by (repeat (first | with_reducible exact Below.refl _ _ | with_reducible exact hbw | (with_reducible refine Below.setCell ?_ ?_ _; rotate_left; · first | exact Nat.le_refl _ | omega | (simp; done) | (simp; omega)) | (with_reducible refine Below.alloc ?_ ?_ _; rotate_left; · first | exact Nat.le_refl _ | omega | (simp; done) | (simp; omega)) | with_reducible refine below_drewN ?_ _ | with_reducible refine Below.drew ?_))) (hb.mono (by simp <;> omega)))
    have hz : w.heap.size + 2 ≤ w1.heap.size := by have := hb.size; simp at this; omega
    have z0 : w1.cell? ⟨w.heap.size, 0, none⟩ = some (.string x.name) := cellB hb (by simp [go_sem])
    have z1 : w1.cell? ⟨w.heap.size, 1, none⟩ = some (.slice a x.tones.length ca) := cellB hb (by simp [go_sem])
    have r0 : w1.cell? ⟨w.heap.size + 1, 0, none⟩ = some (.string ⟨#[]⟩) := cellB hb (by simp [go_sem])
    have r1 : w1.cell? ⟨w.heap.size + 1, 1, none⟩ = some (.slice none 0 0) := cellB hb (by simp [go_sem])
    have f0 : w1.frozen? ⟨w.heap.size + 1, 0, none⟩ = false := frozenL hb (by simp) (by simp [go_sem])
    have f1 : w1.frozen? ⟨w.heap.size + 1, 1, none⟩ = false := frozenL hb (by simp) (by simp [go_sem])
    have hz0 : w.heap.size < w1.heap.size := by omega
    have hz2 : w.heap.size + 1 < w1.heap.size := by omega
    clear hb
    rw [G.out]
    go_wp2
    refine bodyPost_ret (v := .tuple #[.agg #[.string ⟨#[]⟩, .slice none 0 0], .int .i64 1]) (by simp [results, Try.results43, go_sem, hz2, r0, r1]) rfl ⟨_, by rw [E2.out], by rw [E1.out]; exact ownT_zero _ _ _, ?_⟩
    have hbw := HB.out
    (repeat (first | with_reducible exact Below.refl _ _ | with_reducible exact hbw | (with_reducible refine Below.setCell ?_ ?_ _; rotate_left; · first | exact Nat.le_refl _ | omega | (simp; done) | (simp; omega)) | (with_reducible refine Below.alloc ?_ ?_ _; rotate_left; · first | exact Nat.le_refl _ | omega | (simp; done) | (simp; omega)) | with_reducible refine below_drewN ?_ _ | with_reducible refine Below.drew ?_))

end Go.Proofs.Ytfnbjegbaobpnaa
