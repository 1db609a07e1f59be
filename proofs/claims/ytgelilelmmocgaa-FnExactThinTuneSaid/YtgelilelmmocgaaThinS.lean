/- Contract of spec.ThinTune. -/
import Derived.Test.YtgelilelmmocgaaThin
set_option linter.unusedSimpArgs false
set_option linter.unnecessarySimpa false
set_option linter.unusedVariables false
set_option maxRecDepth 100000
namespace Go.Proofs.Ytgelilelmmocgaa
open Go.RowKit

set_option maxHeartbeats 4000000 in
theorem specThinTune_any (v : Value) (x : TunD) (r : Int) (w : World) (h : RdTun w v x) (ok : x.ok) (hs : x.tones.length ≤ 1048576) (_ : I64 r) :
    Calls Try.prog 40 #[v, .int .i64 r] w fun e w' => ∃ v', e = .returned (.tuple #[v', .int .i64 (repC x r)]) ∧ OwnTun w.heap.size w'.heap.size w' v' (thinV x r) ∧ Below w.heap.size w w' := by
  obtain ⟨lv, rfl, hlv⟩ := h
  obtain ⟨a, ca, rfl, hca, hcm, _⟩ := id hlv
  have hn := ok.1
  by_cases gx : validTunB x = true
  rotate_left
  · have E1 := Lib.hid (show thinV x r = ⟨.empty, []⟩ by unfold thinV; rw [if_neg (by rw [rep_x gx]; decide)])
    have E2 := Lib.hid (rep_x (r := r) gx)
    have GX := Lib.hid (show validTunB x = false by simpa using gx); clear gx
    go_enter Try.func40, Try.ntmps40
    go_wp2_with fail
    refine (l25Ok_any _ (.slice a x.tones.length ca) x _ ⟨by simp [go_sem], by simp [go_sem], hlv.mono (by (repeat (first | with_reducible exact Below.refl _ _ | with_reducible exact hbw | (with_reducible refine Below.setCell ?_ ?_ _; rotate_left; · first | exact Nat.le_refl _ | omega | (simp; done) | (simp; omega)) | (with_reducible refine Below.alloc ?_ ?_ _; rotate_left; · first | exact Nat.le_refl _ | omega | (simp; done) | (simp; omega)) | with_reducible refine below_drewN ?_ _ | with_reducible refine Below.drew ?_))), hn⟩).mono ?_
    rw [GX.out]
    rintro e w1 ⟨rfl, hb⟩
    have HB := Lib.hid (show Below w.heap.size w w1 from Below.trans (by (repeat (first | with_reducible exact Below.refl _ _ | with_reducible exact hbw | (with_reducible refine Below.setCell ?_ ?_ _; rotate_left; · first | exact Nat.le_refl _ | omega | (simp; done) | (simp; omega)) | (with_reducible refine Below.alloc ?_ ?_ _; rotate_left; · first | exact Nat.le_refl _ | omega | (simp; done) | (simp; omega)) | with_reducible refine below_drewN ?_ _ | with_reducible refine Below.drew ?_))) (hb.mono (by simp <;> omega)))
    have hz : w.heap.size + 2 ≤ w1.heap.size := by have := hb.size; simp at this; omega
    have z0 : w1.cell? ⟨w.heap.size, 0, none⟩ = some (.string x.name) := cellB hb (by simp [go_sem])
    have z1 : w1.cell? ⟨w.heap.size, 1, none⟩ = some (.slice a x.tones.length ca) := cellB hb (by simp [go_sem])
    have r0 : w1.cell? ⟨w.heap.size + 1, 0, none⟩ = some (.string ⟨#[]⟩) := cellB hb (by simp [go_sem])
    have r1 : w1.cell? ⟨w.heap.size + 1, 1, none⟩ = some (.slice none 0 0) := cellB hb (by simp [go_sem])
    have f0 : w1.frozen? ⟨w.heap.size + 1, 0, none⟩ = false := frozenL hb (by simp) (by simp [go_sem])
    have f1 : w1.frozen? ⟨w.heap.size + 1, 1, none⟩ = false := frozenL hb (by simp) (by simp [go_sem])
    have hz0 : w.heap.size < w1.heap.size := by omega
    have hz2 : w.heap.size + 1 < w1.heap.size := by omega
    clear hb
    go_wp2
    refine bodyPost_ret (v := .tuple #[.agg #[.string ⟨#[]⟩, .slice none 0 0], .int .i64 1]) (by simp [results, Try.results40, go_sem, hz2, r0, r1]) rfl ⟨_, by rw [E2.out], by rw [E1.out]; exact ownT_zero _ _ _, ?_⟩
    have hbw := HB.out
    (repeat (first | with_reducible exact Below.refl _ _ | with_reducible exact hbw | (with_reducible refine Below.setCell ?_ ?_ _; rotate_left; · first | exact Nat.le_refl _ | omega | (simp; done) | (simp; omega)) | (with_reducible refine Below.alloc ?_ ?_ _; rotate_left; · first | exact Nat.le_refl _ | omega | (simp; done) | (simp; omega)) | with_reducible refine below_drewN ?_ _ | with_reducible refine Below.drew ?_))
  have GX := Lib.hid gx
  by_cases gb : restIn r
  rotate_left
  · have E1 := Lib.hid (show thinV x r = ⟨.empty, []⟩ by unfold thinV; rw [if_neg (by rw [rep_r gx gb]; decide)])
    have E2 := Lib.hid (rep_r gx gb)
    have GB := Lib.hid (noB gb); clear gx gb
    go_enter Try.func40, Try.ntmps40
    go_wp2_with fail
    refine (l25Ok_any _ (.slice a x.tones.length ca) x _ ⟨by simp [go_sem], by simp [go_sem], hlv.mono (by (repeat (first | with_reducible exact Below.refl _ _ | with_reducible exact hbw | (with_reducible refine Below.setCell ?_ ?_ _; rotate_left; · first | exact Nat.le_refl _ | omega | (simp; done) | (simp; omega)) | (with_reducible refine Below.alloc ?_ ?_ _; rotate_left; · first | exact Nat.le_refl _ | omega | (simp; done) | (simp; omega)) | with_reducible refine below_drewN ?_ _ | with_reducible refine Below.drew ?_))), hn⟩).mono ?_
    rw [GX.out]
    rintro e w1 ⟨rfl, hb⟩
    have HB := Lib.hid (show Below w.heap.size w w1 from Below.trans (by (repeat (first | with_reducible exact Below.refl _ _ | with_reducible exact hbw | (with_reducible refine Below.setCell ?_ ?_ _; rotate_left; · first | exact Nat.le_refl _ | omega | (simp; done) | (simp; omega)) | (with_reducible refine Below.alloc ?_ ?_ _; rotate_left; · first | exact Nat.le_refl _ | omega | (simp; done) | (simp; omega)) | with_reducible refine below_drewN ?_ _ | with_reducible refine Below.drew ?_))) (hb.mono (by simp <;> omega)))
    have hz : w.heap.size + 2 ≤ w1.heap.size := by have := hb.size; simp at this; omega
    have z0 : w1.cell? ⟨w.heap.size, 0, none⟩ = some (.string x.name) := cellB hb (by simp [go_sem])
    have z1 : w1.cell? ⟨w.heap.size, 1, none⟩ = some (.slice a x.tones.length ca) := cellB hb (by simp [go_sem])
    have r0 : w1.cell? ⟨w.heap.size + 1, 0, none⟩ = some (.string ⟨#[]⟩) := cellB hb (by simp [go_sem])
    have r1 : w1.cell? ⟨w.heap.size + 1, 1, none⟩ = some (.slice none 0 0) := cellB hb (by simp [go_sem])
    have f0 : w1.frozen? ⟨w.heap.size + 1, 0, none⟩ = false := frozenL hb (by simp) (by simp [go_sem])
    have f1 : w1.frozen? ⟨w.heap.size + 1, 1, none⟩ = false := frozenL hb (by simp) (by simp [go_sem])
    have hz0 : w.heap.size < w1.heap.size := by omega
    have hz2 : w.heap.size + 1 < w1.heap.size := by omega
    clear hb
    go_wp2_with fail
    refine (l26Rest_any false _ _ GB.out).mono ?_
    rintro e w3 ⟨rfl, rfl⟩
    go_wp2
    refine bodyPost_ret (v := .tuple #[.agg #[.string ⟨#[]⟩, .slice none 0 0], .int .i64 2]) (by simp [results, Try.results40, go_sem, hz2, r0, r1]) rfl ⟨_, by rw [E2.out], by rw [E1.out]; exact ownT_zero _ _ _, ?_⟩
    have hbw := HB.out
    (repeat (first | with_reducible exact Below.refl _ _ | with_reducible exact hbw | (with_reducible refine Below.setCell ?_ ?_ _; rotate_left; · first | exact Nat.le_refl _ | omega | (simp; done) | (simp; omega)) | (with_reducible refine Below.alloc ?_ ?_ _; rotate_left; · first | exact Nat.le_refl _ | omega | (simp; done) | (simp; omega)) | with_reducible refine below_drewN ?_ _ | with_reducible refine Below.drew ?_))
  have E1 := Lib.hid (show thinV x r = ⟨x.name, thinL x.tones r x.tones.length⟩ by unfold thinV; rw [if_pos (rep_ok gx gb)])
  have E2 := Lib.hid (rep_ok gx gb)
  have GB := Lib.hid (yesB gb)
  have hln := tun_len gx
  clear gx gb
  go_enter Try.func40, Try.ntmps40
  go_wp2_with fail
  refine (l25Ok_any _ (.slice a x.tones.length ca) x _ ⟨by simp [go_sem], by simp [go_sem], hlv.mono (by (repeat (first | with_reducible exact Below.refl _ _ | with_reducible exact hbw | (with_reducible refine Below.setCell ?_ ?_ _; rotate_left; · first | exact Nat.le_refl _ | omega | (simp; done) | (simp; omega)) | (with_reducible refine Below.alloc ?_ ?_ _; rotate_left; · first | exact Nat.le_refl _ | omega | (simp; done) | (simp; omega)) | with_reducible refine below_drewN ?_ _ | with_reducible refine Below.drew ?_))), hn⟩).mono ?_
  rw [GX.out]
  rintro e w1 ⟨rfl, hb⟩
  have HB := Lib.hid (show Below w.heap.size w w1 from Below.trans (by (repeat (first | with_reducible exact Below.refl _ _ | with_reducible exact hbw | (with_reducible refine Below.setCell ?_ ?_ _; rotate_left; · first | exact Nat.le_refl _ | omega | (simp; done) | (simp; omega)) | (with_reducible refine Below.alloc ?_ ?_ _; rotate_left; · first | exact Nat.le_refl _ | omega | (simp; done) | (simp; omega)) | with_reducible refine below_drewN ?_ _ | with_reducible refine Below.drew ?_))) (hb.mono (by simp <;> omega)))
  have hz : w.heap.size + 2 ≤ w1.heap.size := by have := hb.size; simp at this; omega
  have z0 : w1.cell? ⟨w.heap.size, 0, none⟩ = some (.string x.name) := cellB hb (by simp [go_sem])
  have z1 : w1.cell? ⟨w.heap.size, 1, none⟩ = some (.slice a x.tones.length ca) := cellB hb (by simp [go_sem])
  have r0 : w1.cell? ⟨w.heap.size + 1, 0, none⟩ = some (.string ⟨#[]⟩) := cellB hb (by simp [go_sem])
  have r1 : w1.cell? ⟨w.heap.size + 1, 1, none⟩ = some (.slice none 0 0) := cellB hb (by simp [go_sem])
  have f0 : w1.frozen? ⟨w.heap.size + 1, 0, none⟩ = false := frozenL hb (by simp) (by simp [go_sem])
  have f1 : w1.frozen? ⟨w.heap.size + 1, 1, none⟩ = false := frozenL hb (by simp) (by simp [go_sem])
  have hz0 : w.heap.size < w1.heap.size := by omega
  have hz2 : w.heap.size + 1 < w1.heap.size := by omega
  clear hb
  go_wp2_with fail
  refine (l26Rest_any true _ _ GB.out).mono ?_
  rintro e w2 ⟨rfl, rfl⟩
  have HB2 := Lib.hid HB.out
  go_wp2_with fail
  go_loopw [7, 8, 9] (fun i _ _ wr => ∃ (k n : Nat) (a' : Option Addr) (c' : Nat), k ≤ x.tones.length ∧ i = .int .i64 (k : Int) ∧ n = (thinL x.tones r k).length ∧ wr.ownsRow (w2.heap.size + 1) 91 3 (.slice a' n c') n ((thinL x.tones r k).flatMap Ton.cells) ∧ Below w2.heap.size w2 wr ∧ w2.heap.size + 1 ≤ wr.heap.size ∧ wr.cell? ⟨w2.heap.size, 0, none⟩ = some (.string x.name) ∧ wr.cell? ⟨w2.heap.size, 1, none⟩ = some (.slice a' n c') ∧ wr.frozen? ⟨w2.heap.size, 1, none⟩ = false) (fun i _ _ _ => x.tones.length - (intOf i).toNat)
  case atStart => exact ⟨0, 0, none, 0, Nat.zero_le _, by go_num, rfl, by simpa [thinL] using owns_nil _ _ _ _, by (repeat (first | with_reducible exact Below.refl _ _ | with_reducible exact hbw | (with_reducible refine Below.setCell ?_ ?_ _; rotate_left; · first | exact Nat.le_refl _ | omega | (simp; done) | (simp; omega)) | (with_reducible refine Below.alloc ?_ ?_ _; rotate_left; · first | exact Nat.le_refl _ | omega | (simp; done) | (simp; omega)) | with_reducible refine below_drewN ?_ _ | with_reducible refine Below.drew ?_)), by simp, by simp [go_sem], by simp [go_sem], by simp [go_sem]⟩
  case round =>
    obtain ⟨k, n, a', c', hk, rfl, hnn, ho, hb, hzr, d0, d1, df⟩ := hrel
    have HO := Lib.hid ho; have HN := Lib.hid hnn; have HBr := Lib.hid hb; clear ho
    have fl := thin_len x.tones r k
    rw [← hnn] at fl
    clear hnn
    have z0 := cellB hb z0
    have z1 := cellB hb z1
    have l0 : w.heap.size < wr.heap.size := by omega
    by_cases hlt : k < x.tones.length
    · obtain ⟨b1, o1, e1, hT⟩ := TonIn.of ((hlv.mono HB2.out).mono hb) hlt
      subst e1
      have hb1w : b1 < w.heap.size := by
        obtain ⟨_, _, e, hB, _⟩ := hlv.at hlt
        simp only [Option.some.injEq, Addr.mk.injEq, and_true] at e
        rw [e.1]; exact hB
      have l2 : w2.heap.size < wr.heap.size := by omega
      have hto : Tons wr (.slice a' n c') (thinL x.tones r k) := Tons.of_owns (xs := thinL x.tones r k) (by rw [← HN.out]; exact HO.out)
      have HTO := Lib.hid hto
      obtain ⟨wo, rfl⟩ : ∃ wo : World, wo = wr := ⟨_, rfl⟩
      clear hb hto
      go_wp2_with fail
      go_loopw [8, 9] (fun f j wr => ∃ j0 : Nat, j0 ≤ n ∧ j = .int .i64 (j0 : Int) ∧ f = .bool (((thinL x.tones r k).take j0).any (soon x.tones[k] r)) ∧ Q wo wr) (fun _ j _ => n - (intOf j).toNat)
      case atStart => exact ⟨0, Nat.zero_le _, by go_num, by simp, Q.refl _⟩
      case round =>
        obtain ⟨j, hj, rfl, rfl, hq⟩ := hrel
        have u0 := (hq.cell ⟨w.heap.size, 0, none⟩).trans z0
        have u1 := (hq.cell ⟨w.heap.size, 1, none⟩).trans z1
        have v1 := (hq.cell ⟨w2.heap.size, 1, none⟩).trans d1
        by_cases hjk : j < n
        · have hjl : j < (thinL x.tones r k).length := by rw [← HN.out]; exact hjk
          obtain ⟨b2, o2, e2, hT2⟩ := TonIn.of (a := a') (cap := c') (xs := thinL x.tones r k) (by rw [← HN.out]; exact HTO.out.q hq) hjl
          subst e2
          have k0 := (hq.cell ⟨b1, o1 + k * 3, none⟩).trans hT.2
          have k1 := (hq.cell ⟨b1, o1 + k * 3 + 1, none⟩).trans hT.3
          obtain ⟨_, j0, j1, _⟩ := hT2
          have x1 := tun_bd GX.out _ (List.getElem_mem hlt)
          have x2 := thin_bd GX.out r k _ (List.getElem_mem hjl)
          unfold tonBd at x1 x2
          have A := Lib.hid (any_step (P := soon x.tones[k] r) hjl)
          obtain ⟨tj, htj⟩ : ∃ tj, tj = (thinL x.tones r k)[j] := ⟨_, rfl⟩
          rw [← htj] at j0 j1 x2
          have TJ := Lib.hid htj
          have q1 : IntKind.i64.wrap (x.tones[k].start - tj.start) = x.tones[k].start - tj.start := IntWalk.i64_in _ (by omega)
          obtain ⟨f, hf⟩ : ∃ f, f = ((thinL x.tones r k).take j).any (soon x.tones[k] r) := ⟨_, rfl⟩
          rw [← hf]
          have FF := Lib.hid hf
          clear hf x1 x2 htj
          cases f
          · by_cases g1 : tj.note = x.tones[k].note
            · have d1' : (tj.note == x.tones[k].note) = true := by simpa using g1
              by_cases g2 : x.tones[k].start - tj.start < r
              · have d2' : decide (x.tones[k].start - tj.start < r) = true := by simpa using g2
                have RS := Lib.hid (show true = ((thinL x.tones r k).take (j + 1)).any (soon x.tones[k] r) by rw [A.out, ← FF.out, ← TJ.out]; unfold soon; simp [g1, g2])
                clear g1 g2
                go_wp2_with fail
                go_quiet (fail)
                go_wp2
                go_roundw
                case rel => exact ⟨j + 1, by omega, by go_num, by rw [← RS.out], hq.drewN _⟩
                case measure => simp [intOf] <;> omega
              · have d2' : decide (x.tones[k].start - tj.start < r) = false := by simpa using g2
                have RS := Lib.hid (show false = ((thinL x.tones r k).take (j + 1)).any (soon x.tones[k] r) by rw [A.out, ← FF.out, ← TJ.out]; unfold soon; simp [g1]; omega)
                clear g1 g2
                go_wp2_with fail
                go_quiet (fail)
                go_wp2
                go_roundw
                case rel => exact ⟨j + 1, by omega, by go_num, by rw [← RS.out], hq.drewN _⟩
                case measure => simp [intOf] <;> omega
            · have d1' : (tj.note == x.tones[k].note) = false := by simpa using g1
              have RS := Lib.hid (show false = ((thinL x.tones r k).take (j + 1)).any (soon x.tones[k] r) by rw [A.out, ← FF.out, ← TJ.out]; unfold soon; simp [g1])
              have g2 := trivial
              clear g1 g2
              go_wp2_with fail
              go_quiet (fail)
              go_wp2
              go_roundw
              case rel => exact ⟨j + 1, by omega, by go_num, by rw [← RS.out], hq.drewN _⟩
              case measure => simp [intOf] <;> omega
          · have RS := Lib.hid (show true = ((thinL x.tones r k).take (j + 1)).any (soon x.tones[k] r) by rw [A.out, ← FF.out]; simp)
            have g1 := trivial
            have g2 := trivial
            clear g1 g2
            go_wp2_with fail
            go_quiet (fail)
            go_wp2
            go_roundw
            case rel => exact ⟨j + 1, by omega, by go_num, by rw [← RS.out], hq.drewN _⟩
            case measure => simp [intOf] <;> omega
        · obtain rfl : j = n := by omega
          have hbq := hq.below wo.heap.size
          have hzq := hbq.size
          have d0 := cellB hbq d0
          have d1 := cellB hbq d1
          have df := frozenL hbq (by omega) df
          have t0 := cellB hbq hT.2
          have t1 := cellB hbq hT.3
          have t2 := cellB hbq hT.4
          have HO1 := Lib.hid (owns_mono HO.out hbq); have HBr := Lib.hid (HBr.out.trans (hbq.mono (by omega)))
          have tk : (thinL x.tones r k).take j = thinL x.tones r k := List.take_of_length_le (by rw [← HN.out]; exact Nat.le_refl _)
          rw [tk]
          have m1 : b1 < wr.heap.size := by omega
          have m2 : w.heap.size < wr.heap.size := by omega
          have m3 : w2.heap.size < wr.heap.size := by omega
          clear hT tk
          cases g : (thinL x.tones r k).any (soon x.tones[k] r)
          · have F := Lib.hid (thin_no hlt g)
            clear g
            have xt1 : ∀ o y, (extT wr.drew w2.heap.size wr.heap.size y).cell? ⟨b1, o, none⟩ = wr.drew.cell? ⟨b1, o, none⟩ := fun o y => cell?_extT m1 (.inl (by omega))
            have xt2 : ∀ o y, (extT wr.drew w2.heap.size wr.heap.size y).cell? ⟨w.heap.size, o, none⟩ = wr.drew.cell? ⟨w.heap.size, o, none⟩ := fun o y => cell?_extT m2 (.inl (by omega))
            have xt3 : ∀ o y, (ext wr.drew none y).cell? ⟨w2.heap.size, o, none⟩ = wr.drew.cell? ⟨w2.heap.size, o, none⟩ := fun o y => cell?_ext m3 (by simp)
            go_wp2_with fail
            refine wp_region_ord3 [(0, 1), (1, 3), (2, 1), (3, 1), (4, 1), (5, 1), (6, 1), (7, 4), (8, 0), (9, 1), (10, 0)] [7, 8, 10] [8, 10] (w2.heap.size) (wr.heap.size) (by kernel_rfl) (by kernel_rfl) ?_
            (repeat ((first | with_reducible refine wpOrd3_soft (fun K hK => ?_) | with_reducible refine wpOrd3_pre (fun K hK => ?_) | with_reducible refine wpOrd3_late (fun K hK => ?_)); simp only [List.getElem?_toArray, List.getElem?_cons_zero, List.getElem?_cons_succ]; first | (go_simp; refine hK _ ?_) | (simp only [undef]; go_simp; refine hK _ ?_); clear hK K))
            ((first | with_reducible refine wpOrd3_hard ?_ | with_reducible refine wpOrd3_new ?_); simp only [List.getElem?_toArray, List.getElem?_cons_zero, List.getElem?_cons_succ])
            go_wp2_with fail
            refine And.intro (grown_of_below (belowA _ _)) ?_
            (repeat ((first | with_reducible refine wpOrd3_soft (fun K hK => ?_) | with_reducible refine wpOrd3_pre (fun K hK => ?_) | with_reducible refine wpOrd3_late (fun K hK => ?_)); simp only [List.getElem?_toArray, List.getElem?_cons_zero, List.getElem?_cons_succ]; first | (go_simp; refine hK _ ?_) | (simp only [undef]; go_simp; refine hK _ ?_); clear hK K))
            ((first | with_reducible refine wpOrd3_hard ?_ | with_reducible refine wpOrd3_new ?_); simp only [List.getElem?_toArray, List.getElem?_cons_zero, List.getElem?_cons_succ])
            refine append_one_atD rfl _ _ 33 rfl (w2.heap.size + 1) 91 _ 3 24 Try.underlying33 info_Tone rfl (by decide) _ j _ rfl HO1.out [.int .i64 x.tones[k].note, .int .i64 x.tones[k].start, .int .i64 x.tones[k].len] rfl (by intro u hu; simp at hu; rcases hu with rfl | rfl | rfl <;> rfl) wr.heap.size rfl rfl (by omega) (by decide) (by omega) ?_
            intro a5 cap5 w5 ho5 hg5 hb5
            have hst : Below (w2.heap.size + 1) wr w5 := undrew hb5
            have hT5 := Touch.of_grown (B := w2.heap.size) (E := wr.heap.size) hg5 (fun q hq => by have := HO1.out.lt q hq; omega)
            have HT5 := Lib.hid hT5; clear hT5 hg5 hb5
            have hz5 := hst.size
            have d0' := cellL hst (by simp) d0
            have d1' := cellL hst (by simp) d1
            have df' := frozenL hst (by simp) df
            have ht : Touch w2.heap.size (w2.heap.size + 1) w5 (w5.setCell ⟨w2.heap.size, 1, none⟩ (.slice a5 (j + 1) cap5)) := (Touch.refl _ _ w5).setCell (p := ⟨w2.heap.size, 1, none⟩) (by simp) _
            have hlt5 : w2.heap.size < w5.heap.size := by omega
            have hbw5 : Below w2.heap.size w2 (w5.setCell ⟨w2.heap.size, 1, none⟩ (.slice a5 (j + 1) cap5)) := ht.below (HBr.out.trans (hst.mono (by omega))) (Nat.le_refl _) (by omega)
            have e0' : (w5.setCell ⟨w2.heap.size, 1, none⟩ (.slice a5 (j + 1) cap5)).cell? ⟨w2.heap.size, 0, none⟩ = some (.string x.name) := by simp [go_sem, d0', hlt5, df']
            have e1' : (w5.setCell ⟨w2.heap.size, 1, none⟩ (.slice a5 (j + 1) cap5)).cell? ⟨w2.heap.size, 1, none⟩ = some (.slice a5 (j + 1) cap5) := by simp [go_sem, d1', hlt5, df']
            have ef' : (w5.setCell ⟨w2.heap.size, 1, none⟩ (.slice a5 (j + 1) cap5)).frozen? ⟨w2.heap.size, 1, none⟩ = false := by simp [go_sem, hlt5, df']
            have ho6 := ownsRow_setCell_below (a := ⟨w2.heap.size, 1, none⟩) ho5 (by simp) (.slice a5 (j + 1) cap5)
            have EW := Lib.hid e0'; have EW1 := Lib.hid e1'; have EF := Lib.hid ef'; have BW := Lib.hid hbw5; have HO6 := Lib.hid ho6
            clear e0' e1' ef' hbw5 ho6 ht hst ho5 d0 d1 df
            go_wp2_with fail
            refine And.intro HT5.out ?_
            (repeat ((first | with_reducible refine wpOrd3_soft (fun K hK => ?_) | with_reducible refine wpOrd3_pre (fun K hK => ?_) | with_reducible refine wpOrd3_late (fun K hK => ?_)); simp only [List.getElem?_toArray, List.getElem?_cons_zero, List.getElem?_cons_succ]; first | (go_simp; refine hK _ ?_) | (simp only [undef]; go_simp; refine hK _ ?_); clear hK K))
            ((first | with_reducible refine wpOrd3_hard ?_ | with_reducible refine wpOrd3_new ?_); simp only [List.getElem?_toArray, List.getElem?_cons_zero, List.getElem?_cons_succ])
            go_wp2_with fail
            refine And.intro (HT5.out.setCell (by simp; omega) _) ?_
            (with_reducible refine wpOrd3_nil ?_); refine NoPanic.normal ?_
            go_wp2
            go_roundw
            case rel => exact ⟨k + 1, j + 1, a5, cap5, by omega, by go_num, by rw [F.out, HN.out]; simp, by rw [F.out, thin_cells]; exact HO6.out, BW.out, by simp [World.setCell]; omega, EW.out, EW1.out, EF.out⟩
            case measure => simp [intOf] <;> omega
          · have F := Lib.hid (thin_yes hlt g)
            clear g
            go_wp2
            go_roundw
            case rel => exact ⟨k + 1, j, a', c', by omega, by go_num, by rw [F.out]; exact HN.out, by rw [F.out]; exact HO1.out, HBr.out, by omega, d0, d1, df⟩
            case measure => simp [intOf] <;> omega
    · obtain rfl : k = x.tones.length := by omega
      clear hb
      have HO2 := Lib.hid HO.out
      have r0 := cellB HBr.out r0
      have r1 := cellB HBr.out r1
      have f0 := frozenL HBr.out (by simp; omega) f0
      have f1 := frozenL HBr.out (by simp; omega) f1
      have n1 : ¬ w.heap.size + 1 = w2.heap.size := by omega
      have l5 : w.heap.size + 1 < wr.heap.size := by omega
      have hzr := HBr.out.size
      have HB5 := Lib.hid (HB2.out.trans (HBr.out.mono HB2.out.size))
      clear df
      go_wp2
      refine bodyPost_ret (v := .tuple #[.agg #[.string x.name, .slice a' n c'], .int .i64 0]) (by simp [results, Try.results40, go_sem, l5, r0, r1]) rfl ⟨_, by rw [E2.out], ?_, ?_⟩
      · rw [E1.out]
        refine ⟨.slice a' n c', rfl, ?_⟩
        have ho3 : OwnRow (w2.heap.size + 1) wr.heap.size wr 91 3 (.slice a' n c') (thinL x.tones r x.tones.length).length ((thinL x.tones r x.tones.length).flatMap Ton.cells) := OwnRow.mk' (by rw [← HN.out]; exact HO2.out)
        refine (ho3.touch (B' := w.heap.size + 1) (E' := w.heap.size + 2) ?_ (Or.inr (by omega))).wide (by omega) (by simp)
        have htc := Touch.refl (w.heap.size + 1) (w.heap.size + 2) wr
        (repeat (first | with_reducible exact Touch.refl _ _ _ | with_reducible exact htc | (with_reducible refine Touch.setCell ?_ ?_ _; rotate_left; · (simp only; omega)) | (with_reducible refine Touch.setNew ?_ ?_ _; rotate_left; · (first | (simp only; omega) | (simp; done) | (simp; omega))) | with_reducible refine Touch.alloc ?_ _ | with_reducible refine Touch.drewN ?_ _ | with_reducible refine Touch.drew ?_))
      · have hbw := HB5.out
        (repeat (first | with_reducible exact Below.refl _ _ | with_reducible exact hbw | (with_reducible refine Below.setCell ?_ ?_ _; rotate_left; · first | exact Nat.le_refl _ | omega | (simp; done) | (simp; omega)) | (with_reducible refine Below.alloc ?_ ?_ _; rotate_left; · first | exact Nat.le_refl _ | omega | (simp; done) | (simp; omega)) | with_reducible refine below_drewN ?_ _ | with_reducible refine Below.drew ?_))

end Go.Proofs.Ytgelilelmmocgaa
