/- Contract of the program's EvenWeights. -/
import Derived.Test.YtijhlllajddlpaaEven
set_option linter.unusedSimpArgs false
set_option linter.unnecessarySimpa false
set_option linter.unusedVariables false
set_option maxRecDepth 100000
namespace Go.Proofs.Ytijhlllajddlpaa
open Go.RowKit

set_option maxHeartbeats 4000000 in
theorem implEvenWeights_any (v : Value) (x : List ActD) (lim : Int) (w : World) (h : RdActs w v x) (_ : okActs x) (hs : szActs x ≤ 1048576) (_ : I64 lim) :
    Calls Try.prog 12 #[v, .int .i64 lim] w fun e w' => ∃ v', e = .returned (.tuple #[v', .int .i64 (evC x lim)]) ∧ OwnActs w.heap.size w'.heap.size w' v' (evV x lim) ∧ Below w.heap.size w w' := by
  obtain ⟨a, ca, rfl, hm⟩ := h.form'
  unfold maxLen at hm
  have hxl : x.length ≤ 1048576 := Nat.le_trans (szActs_len x) hs
  by_cases g : ClavOk x
  · have GV := Lib.hid (clavB_iff.2 g)
    by_cases gl : limOk lim
    · have GL := Lib.hid gl
      obtain ⟨l0, l1⟩ := gl
      have G := Lib.hid g; clear g
      have E := Lib.hid (ev_yes GV.out GL.out)
      rw [E.out.1, E.out.2]
      have HS := Lib.hid hs; clear hs
      go_enter Try.func12, Try.ntmps12
      go_wp2_with fail
      refine (implValidClav_any _ x _ h).mono ?_
      rw [GV.out]
      rintro e w1 ⟨rfl, hb⟩
      go_wp2_with fail
      refine (within_any true _ _ _ _ (yesB GL.out)).mono ?_
      rintro e w2 ⟨rfl, rfl⟩
      go_wp2_with fail
      go_loopw [6, 22, 8, 9, 10, 11, 12, 13] (fun u i _ _ _ _ _ _ wr => ∃ (k : Nat) (ys : List (Value × ActD)) (a' : Option Addr) (c' : Nat), k ≤ x.length ∧ i = .int .i64 k ∧ u = .slice a' ys.length c' ∧ ys.length = k ∧ ys.map Prod.snd = (evens x lim).take k ∧ ActsSt w.heap.size wr.heap.size wr (.slice a' ys.length c') ys ∧ Below w.heap.size w wr) (fun _ i _ _ _ _ _ _ _ => x.length - (intOf i).toNat)
      case atStart => exact ⟨0, [], none, 0, Nat.zero_le _, rfl, rfl, rfl, rfl, ActsSt.nil _ _ _, hb⟩
      case round =>
        clear hb
        obtain ⟨k, ys, a0, c0, hk, rfl, rfl, hyk, hys, hst, hb⟩ := hrel
        have HY := Lib.hid hys; have ST := Lib.hid hst; have HK := Lib.hid hyk; clear hys hst hyk
        obtain ⟨wo, rfl⟩ : ∃ wo : World, wo = wr := ⟨_, rfl⟩
        have hsz := hb.size
        by_cases hlt : k < x.length
        · obtain ⟨b1, o1, lv, cc, rfl, hB, u0, u1, u2, u3, u4⟩ := (h.mono hb).at' hlt
          have hA := G.out.ok hlt
          have hll : x[k].levs.length ≤ 1048576 := Nat.le_trans (szActs_at hlt) HS.out
          have HA := Lib.hid hA.arms; clear hA
          go_wp2_with fail
          refine (copyAct_any _ x[k] _ ⟨_, rfl, u4.mono (by (repeat (first | with_reducible exact Below.refl _ _ | with_reducible exact hbw | (with_reducible refine Below.setCell ?_ ?_ _; rotate_left; · first | exact Nat.le_refl _ | omega | (simp; done) | (simp; omega)) | (with_reducible refine Below.alloc ?_ ?_ _; rotate_left; · first | exact Nat.le_refl _ | omega | (simp; done) | (simp; omega)) | with_reducible refine below_drewN ?_ _ | with_reducible refine Below.drew ?_)))⟩ hll).mono ?_
          rintro e w1 ⟨v1, rfl, ho, hb0⟩
          obtain ⟨a1, c1, rfl⟩ := ho.form
          have hrow := ho.row
          have hb1 : Below wo.heap.size wo w1 := Below.trans (by (repeat (first | with_reducible exact Below.refl _ _ | with_reducible exact hbw | (with_reducible refine Below.setCell ?_ ?_ _; rotate_left; · first | exact Nat.le_refl _ | omega | (simp; done) | (simp; omega)) | (with_reducible refine Below.alloc ?_ ?_ _; rotate_left; · first | exact Nat.le_refl _ | omega | (simp; done) | (simp; omega)) | with_reducible refine below_drewN ?_ _ | with_reducible refine Below.drew ?_))) (hb0.mono (by simp))
          have hz0 := hb0.size
          simp only [World.size_alloc] at hz0
          have hz1 : wo.heap.size ≤ w1.heap.size := by omega
          have hR := hrow.wide (B' := wo.heap.size) (by simp) (Nat.le_refl _)
          have HR := Lib.hid hR; clear ho hrow hR hb0
          go_wp2_with fail
          go_loopw [10, 11, 12, 13] (fun l h _ _ wz => ∃ low high m : Int, l = .int .i64 low ∧ h = .int .i64 high ∧ EvS x[k].levs lim low high ∧ ActIn wz w1.heap.size 0 (.slice a1 x[k].levs.length c1) { x[k] with weight := m } ∧ wz.frozen? ⟨w1.heap.size, 3, none⟩ = false ∧ Touch w1.heap.size (w1.heap.size + 1) (w1.alloc (.cells #[.int .i64 x[k].note, .slice a1 x[k].levs.length c1, .int .i64 x[k].slack, .int .i64 x[k].weight] 30)) wz) (fun l h _ _ _ => (intOf h - intOf l).toNat)
          case atStart => exact ⟨0, 1000000, x[k].weight, rfl, rfl, EvS.start HA.out l0, ⟨by simp [go_sem], by simp [go_sem], by simp [go_sem], by simp [go_sem], Levs.mono (Sl.of_owns HR.out.1) (by (repeat (first | with_reducible exact Below.refl _ _ | with_reducible exact hbw | (with_reducible refine Below.setCell ?_ ?_ _; rotate_left; · first | exact Nat.le_refl _ | omega | (simp; done) | (simp; omega)) | (with_reducible refine Below.alloc ?_ ?_ _; rotate_left; · first | exact Nat.le_refl _ | omega | (simp; done) | (simp; omega)) | with_reducible refine below_drewN ?_ _ | with_reducible refine Below.drew ?_)))⟩, by simp [go_sem], Touch.refl _ _ _⟩
          case round =>
            obtain ⟨low, high, m, rfl, rfl, hS, hI, hf, ht⟩ := hrel
            have e0 := hS.l0; have e1 := hS.lh; have e2 := hS.h1
            obtain ⟨i0, i1, i2, i3, i4⟩ := id hI
            have hzt := ht.size
            simp only [World.size_alloc] at hzt
            have hzt1 : w1.heap.size < wr.heap.size := by omega
            have HSS := Lib.hid hS; have HT := Lib.hid ht; clear hS ht hI
            by_cases hlt2 : low < high
            · have em : low < (low + high + 1) / 2 ∧ (low + high + 1) / 2 ≤ high := by omega
              go_wp2_with fail
              generalize (low + high + 1) / 2 = md at em ⊢
              obtain ⟨m1, m2⟩ := em
              obtain ⟨q, hq⟩ : ∃ q, q = heave x[k].levs md := ⟨_, rfl⟩
              have HQ := Lib.hid hq; clear hq
              have f3 : (wr.setCell ⟨w1.heap.size, 3, none⟩ (.int .i64 md)).frozen? ⟨w1.heap.size, 3, none⟩ = false := by simpa [go_sem] using hf
              have j0 : (wr.setCell ⟨w1.heap.size, 3, none⟩ (.int .i64 md)).cell? ⟨w1.heap.size, 0, none⟩ = some (.int .i64 x[k].note) := by simp [go_sem, i0]
              have j1 : (wr.setCell ⟨w1.heap.size, 3, none⟩ (.int .i64 md)).cell? ⟨w1.heap.size, 1, none⟩ = some (.slice a1 x[k].levs.length c1) := by simp [go_sem, i1]
              have j2 : (wr.setCell ⟨w1.heap.size, 3, none⟩ (.int .i64 md)).cell? ⟨w1.heap.size, 2, none⟩ = some (.int .i64 x[k].slack) := by simp [go_sem, i2]
              have j3 : (wr.setCell ⟨w1.heap.size, 3, none⟩ (.int .i64 md)).cell? ⟨w1.heap.size, 3, none⟩ = some (.int .i64 md) := by simp [go_sem, i3]
              have jl : OwnRow wo.heap.size w1.heap.size (wr.setCell ⟨w1.heap.size, 3, none⟩ (.int .i64 md)) 51 2 (.slice a1 x[k].levs.length c1) x[k].levs.length (x[k].levs.flatMap Lev.cells) := ((HR.out.mono (belowA _ _)).touch HT.out (by omega)).touch (B' := w1.heap.size) (E' := w1.heap.size + 1) (by (repeat (first | with_reducible exact Touch.refl _ _ _ | with_reducible exact htc | (with_reducible refine Touch.setCell ?_ ?_ _; rotate_left; · (simp only; omega)) | (with_reducible refine Touch.setNew ?_ ?_ _; rotate_left; · (first | (simp only; omega) | (simp; done) | (simp; omega))) | with_reducible refine Touch.alloc ?_ _ | with_reducible refine Touch.drewN ?_ _ | with_reducible refine Touch.drew ?_))) (by omega)
              have hT2 := HT.out.setCell (p := ⟨w1.heap.size, 3, none⟩) (by simp) (.int .i64 md)
              have HT2 := Lib.hid hT2; have JL := Lib.hid jl; clear hT2 jl
              by_cases q0 : q < 0
              · refine (touch_any q 0 false _ (.slice a1 x[k].levs.length c1) { x[k] with weight := md } _ ⟨rfl, Sl.of_owns JL.out.1⟩ HQ.out (by rw [if_pos q0]) (noB (by omega)) HA.out (by simp only; omega) (by simp only; omega)).mono ?_
                rintro e w3 ⟨rfl, hb3⟩
                have k0 := cellB hb3 j0
                have k1 := cellB hb3 j1
                have k2 := cellB hb3 j2
                have k3 := cellB hb3 j3
                have k4 : Levs w3 (.slice a1 x[k].levs.length c1) x[k].levs := (Levs.mono (Sl.of_owns JL.out.1) hb3)
                have k5 := frozenL hb3 (by simp; omega) f3
                have k6 := HT2.out.step hb3 (by simp; omega)
                have F := Lib.hid (HSS.out.down (m := md) (by omega) (by omega) (fun hf => by have := hf.1; rw [← HQ.out] at this; omega))
                go_wp2
                go_roundw
                case rel => exact ⟨low, md - 1, md, rfl, rfl, F.out, ⟨k0, k1, k2, k3, k4⟩, k5, k6⟩
                case measure => simp [intOf] <;> omega
              · refine (touch_any q q true _ (.slice a1 x[k].levs.length c1) { x[k] with weight := md } _ ⟨rfl, Sl.of_owns JL.out.1⟩ HQ.out (by rw [if_neg q0]) (yesB (by omega)) HA.out (by simp only; omega) (by simp only; omega)).mono ?_
                rintro e w3 ⟨rfl, hb3⟩
                have k0 := cellB hb3 j0
                have k1 := cellB hb3 j1
                have k2 := cellB hb3 j2
                have k3 := cellB hb3 j3
                have k4 : Levs w3 (.slice a1 x[k].levs.length c1) x[k].levs := (Levs.mono (Sl.of_owns JL.out.1) hb3)
                have k5 := frozenL hb3 (by simp; omega) f3
                have k6 := HT2.out.step hb3 (by simp; omega)
                by_cases q1 : q ≤ lim
                · have d1 : decide (q ≤ lim) = true := by simpa using q1
                  have F := Lib.hid (HSS.out.up (m := md) (by omega) (by omega) ⟨by rw [← HQ.out]; omega, by rw [← HQ.out]; omega⟩)
                  go_wp2
                  go_roundw
                  case rel => exact ⟨md, high, md, rfl, rfl, F.out, ⟨k0, k1, k2, k3, k4⟩, k5, k6⟩
                  case measure => simp [intOf] <;> omega
                · have d1 : decide (q ≤ lim) = false := by simpa using q1
                  have F := Lib.hid (HSS.out.down (m := md) (by omega) (by omega) (fun hf => q1 (by rw [HQ.out]; exact hf.2)))
                  go_wp2
                  go_roundw
                  case rel => exact ⟨low, md - 1, md, rfl, rfl, F.out, ⟨k0, k1, k2, k3, k4⟩, k5, k6⟩
                  case measure => simp [intOf] <;> omega
            · obtain rfl : high = low := by omega
              have EW := Lib.hid (HSS.out.done HA.out)
              have hTw : Touch w1.heap.size (w1.heap.size + 1) (w1.alloc (.cells #[.int .i64 x[k].note, .slice a1 x[k].levs.length c1, .int .i64 x[k].slack, .int .i64 x[k].weight] 30)) (wr.setCell ⟨w1.heap.size, 3, none⟩ (.int .i64 high)) := HT.out.setCell (by simp) _
              have hb1X : Below w1.heap.size w1 (wr.setCell ⟨w1.heap.size, 3, none⟩ (.int .i64 high)) := hTw.below (belowA _ _) (Nat.le_refl _) (by simp)
              have hbX := hb1.trans (hb1X.mono hz1)
              have hoX := OwnRow.mono ST.out.1 hbX
              have hlX := OwnRow.mono HR.out hb1X
              have hyb : ys.length ≤ 1048576 := by have := HK.out; omega
              have hzX := hbX.size
              have hbwX := hb.trans (hbX.mono hsz)
              have HBX := Lib.hid hbX; have HBW := Lib.hid hbwX; have HLX := Lib.hid hlX; clear hbX hb1X hlX hbwX hTw
              have e6 : actCells (.slice a1 x[k].levs.length c1, evenA lim x[k]) = [.int .i64 x[k].note, .slice a1 x[k].levs.length c1, .int .i64 x[k].slack, .int .i64 high] := by simp only [actCells, evenA, EW.out]
              have E6 := Lib.hid e6; clear e6
              simp only at i0 i1 i2 i3
              go_wp2_with (at_builtin; refine append_one_at rfl _ _ 36 rfl w.heap.size 30 _ 4 48 Try.underlying36 info_Action rfl (by decide) _ ys.length _ rfl hoX.1 [.int .i64 x[k].note, .slice a1 x[k].levs.length c1, .int .i64 x[k].slack, .int .i64 high] rfl (by intro u hu; simp at hu; rcases hu with rfl | rfl | rfl | rfl <;> rfl) wr.heap.size (by simp) rfl (by omega) (by decide) (Nat.le_trans hsz hzX) ?_)
              intro a' cap' w5 ho5 hg5 hb5 hat5
              rw [← E6.out] at ho5
              have sn := ActsSt.snoc (v' := .slice a' (ys.length + 1) cap') (x := evenA lim x[k]) ST.out (Nat.le_refl _) hz1 hsz HBX.out (Nat.le_refl _) (by simpa [evenA] using HLX.out) hg5 ho5 (by
                rcases hat5 with h | h
                · exact .inl h
                · exact .inr ⟨_, h, by omega⟩)
              have hb6 := HBW.out.trans hb5
              go_wp2
              go_roundw
              case rel => exact ⟨k + 1, ys ++ [(.slice a1 x[k].levs.length c1, evenA lim x[k])], a', cap', by omega, by go_num, by simp, by simp [HK.out], by rw [List.map_append, HY.out, evens_take hlt]; rfl, by simpa using sn, hb6⟩
              case measure => simp [intOf] <;> omega
        · obtain rfl : k = x.length := by omega
          have EV := Lib.hid (show (evens x lim).take x.length = evens x lim from List.take_of_length_le (by simp [evens]))
          go_wp2
          go_ret2
          exact ⟨_, rfl, OwnActs.st.2 ⟨ys, by rw [HY.out, EV.out], ST.out⟩, hb⟩
    · have E := Lib.hid (ev_rng GV.out gl)
      have GL := Lib.hid gl; clear g gl
      rw [E.out.1, E.out.2]
      go_enter Try.func12, Try.ntmps12
      go_wp2_with fail
      refine (implValidClav_any _ x _ h).mono ?_
      rw [GV.out]
      rintro e w1 ⟨rfl, hb⟩
      go_wp2_with fail
      refine (within_any false _ _ _ _ (noB GL.out)).mono ?_
      rintro e w2 ⟨rfl, rfl⟩
      go_wp2
      go_ret2
      exact ⟨_, rfl, OwnActs.nil _ _ _, hb⟩
  · have GV := Lib.hid (show clavB x = false by rw [← Bool.not_eq_true, clavB_iff]; exact g); clear g
    have E := Lib.hid (ev_inv (lim := lim) GV.out)
    rw [E.out.1, E.out.2]
    go_enter Try.func12, Try.ntmps12
    go_wp2_with fail
    refine (implValidClav_any _ x _ h).mono ?_
    rw [GV.out]
    rintro e w1 ⟨rfl, hb⟩
    go_wp2
    go_ret2
    exact ⟨_, rfl, OwnActs.nil _ _ _, hb⟩

end Go.Proofs.Ytijhlllajddlpaa
