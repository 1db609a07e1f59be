/- Contracts of l26Fast and of FastRepeats of both packages. -/
import Derived.Test.YtgelilelmmocgaaFast
set_option linter.unusedSimpArgs false
set_option linter.unnecessarySimpa false
set_option linter.unusedVariables false
set_option maxRecDepth 100000
namespace Go.Proofs.Ytgelilelmmocgaa
open Go.RowKit

theorem any_step {ts : List Ton} {P : Ton → Bool} {j : Nat} (h : j < ts.length) : (ts.take (j + 1)).any P = ((ts.take j).any P || P ts[j]) := by
  rw [List.take_succ_eq_append_getElem h, List.any_append]; simp

set_option maxHeartbeats 4000000 in
theorem l26Fast_any (kb : Nat) (lv : Value) (x : TunD) (rest : Int) (w : World) (h : TunIn w kb lv x) (ok : validTunB x = true) :
    Calls Try.prog 81 #[.pointer (some ⟨kb, 0, none⟩), .int .i64 rest] w fun e w' => ∃ v', e = .returned v' ∧ OwnInts w.heap.size w'.heap.size w' v' (fastL x.tones rest x.tones.length) ∧ Below w.heap.size w w' := by
  obtain ⟨c0, c1, hlv, hnm⟩ := h
  obtain ⟨a, ca, rfl, hca, hcm, _⟩ := id hlv
  have hl := tun_len ok
  have BD := Lib.hid (tun_bd ok); clear ok
  go_enter Try.func81, Try.ntmps81
  go_wp2_with fail
  go_loopw [5, 6, 7, 8] (fun o i _ _ wr => ∃ (k n : Nat) (a' : Option Addr) (c' : Nat), k ≤ x.tones.length ∧ i = .int .i64 (k : Int) ∧ n = (fastL x.tones rest k).length ∧ o = .slice a' n c' ∧ wr.ownsRow w.heap.size 2 1 (.slice a' n c') n ((fastL x.tones rest k).map (Value.int .i64)) ∧ Below w.heap.size w wr) (fun _ i _ _ _ => x.tones.length - (intOf i).toNat)
  case atStart => exact ⟨0, 0, some ⟨w.heap.size, 0, none⟩, 0, Nat.zero_le _, by go_num, rfl, rfl, by simpa [fastL] using owns_empty w 2 1 _ (Nat.le_refl _), by (repeat (first | with_reducible exact Below.refl _ _ | with_reducible exact hbw | (with_reducible refine Below.setCell ?_ ?_ _; rotate_left; · first | exact Nat.le_refl _ | omega | (simp; done) | (simp; omega)) | (with_reducible refine Below.alloc ?_ ?_ _; rotate_left; · first | exact Nat.le_refl _ | omega | (simp; done) | (simp; omega)) | with_reducible refine below_drewN ?_ _ | with_reducible refine Below.drew ?_))⟩
  case round =>
    obtain ⟨k, n, a', c', hk, rfl, hn, rfl, ho, hb⟩ := hrel
    have HO := Lib.hid ho; have HN := Lib.hid hn; clear ho
    have fl := fastL_len x.tones rest k
    rw [← hn] at fl
    clear hn
    have u0 := cellB hb c0
    have u1 := cellB hb c1
    have hz := hb.size
    by_cases hlt : k < x.tones.length
    · obtain ⟨b1, o1, e1, hT⟩ := TonIn.of (hlv.mono hb) hlt
      subst e1
      obtain ⟨wo, rfl⟩ : ∃ wo : World, wo = wr := ⟨_, rfl⟩
      have HB := Lib.hid hb; clear hb
      go_wp2_with fail
      go_loopw [7, 8] (fun f j wr => ∃ j0 : Nat, j0 ≤ k ∧ j = .int .i64 (j0 : Int) ∧ f = .bool ((x.tones.take j0).any (soon x.tones[k] rest)) ∧ Q wo wr) (fun _ j _ => k - (intOf j).toNat)
      case atStart => exact ⟨0, Nat.zero_le _, by go_num, by simp, Q.refl _⟩
      case round =>
        obtain ⟨j, hj, rfl, rfl, hq⟩ := hrel
        have u0 := (hq.cell ⟨kb, 0, none⟩).trans u0
        have u1 := (hq.cell ⟨kb, 1, none⟩).trans u1
        by_cases hjk : j < k
        · have hjl : j < x.tones.length := by omega
          obtain ⟨b2, o2, e2, hT2⟩ := TonIn.of ((hlv.mono HB.out).q hq) hjl
          simp only [Option.some.injEq, Addr.mk.injEq, and_true] at e2
          obtain ⟨rfl, rfl⟩ := e2
          have k0 := (hq.cell ⟨b1, o1 + k * 3, none⟩).trans hT.2
          have k1 := (hq.cell ⟨b1, o1 + k * 3 + 1, none⟩).trans hT.3
          obtain ⟨_, j0, j1, _⟩ := hT2
          have x1 := BD.out _ (List.getElem_mem hlt)
          have x2 := BD.out _ (List.getElem_mem hjl)
          unfold tonBd at x1 x2
          have q1 : IntKind.i64.wrap (x.tones[k].start - x.tones[j].start) = x.tones[k].start - x.tones[j].start := IntWalk.i64_in _ (by omega)
          have A := Lib.hid (any_step (P := soon x.tones[k] rest) hjl)
          obtain ⟨f, hf⟩ : ∃ f, f = (x.tones.take j).any (soon x.tones[k] rest) := ⟨_, rfl⟩
          rw [← hf]
          have FF := Lib.hid hf
          clear hf x1 x2
          cases f
          · by_cases g1 : x.tones[j].note = x.tones[k].note
            · have d1 : (x.tones[j].note == x.tones[k].note) = true := by simpa using g1
              by_cases g2 : x.tones[k].start - x.tones[j].start < rest
              · have d2 : decide (x.tones[k].start - x.tones[j].start < rest) = true := by simpa using g2
                have RS := Lib.hid (show true = (x.tones.take (j + 1)).any (soon x.tones[k] rest) by rw [A.out, ← FF.out]; unfold soon; simp [g1, g2])
                clear g1 g2
                go_wp2_with fail
                go_quiet (fail)
                go_wp2
                go_roundw
                case rel => exact ⟨j + 1, by omega, by go_num, by rw [← RS.out], hq.drewN _⟩
                case measure => simp [intOf] <;> omega
              · have d2 : decide (x.tones[k].start - x.tones[j].start < rest) = false := by simpa using g2
                have RS := Lib.hid (show false = (x.tones.take (j + 1)).any (soon x.tones[k] rest) by rw [A.out, ← FF.out]; unfold soon; simp [g1]; omega)
                clear g1 g2
                go_wp2_with fail
                go_quiet (fail)
                go_wp2
                go_roundw
                case rel => exact ⟨j + 1, by omega, by go_num, by rw [← RS.out], hq.drewN _⟩
                case measure => simp [intOf] <;> omega
            · have d1 : (x.tones[j].note == x.tones[k].note) = false := by simpa using g1
              have RS := Lib.hid (show false = (x.tones.take (j + 1)).any (soon x.tones[k] rest) by rw [A.out, ← FF.out]; unfold soon; simp [g1])
              have g2 := trivial
              clear g1 g2
              go_wp2_with fail
              go_quiet (fail)
              go_wp2
              go_roundw
              case rel => exact ⟨j + 1, by omega, by go_num, by rw [← RS.out], hq.drewN _⟩
              case measure => simp [intOf] <;> omega
          · have RS := Lib.hid (show true = (x.tones.take (j + 1)).any (soon x.tones[k] rest) by rw [A.out, ← FF.out]; simp)
            have g1 := trivial
            have g2 := trivial
            clear g1 g2
            go_wp2_with fail
            go_quiet (fail)
            go_wp2
            go_roundw
            case rel => exact ⟨j + 1, by omega, by go_num, by rw [← RS.out], hq.drewN _⟩
            case measure => simp [intOf] <;> omega
        · obtain rfl : j = k := by omega
          have hbq := hq.below wo.heap.size
          have hzq := hbq.size
          have HO1 := Lib.hid (owns_mono HO.out hbq); have HB1 := Lib.hid (HB.out.trans (hbq.mono hz))
          by_cases g : fastAt x.tones rest j = true
          · have F := Lib.hid (fastL_yes g)
            rw [show (x.tones.take j).any (soon x.tones[j] rest) = true by rw [← fastAt_eq hlt]; exact g]
            clear g
            go_wp2_with (at_builtin; refine append_one rfl _ _ 22 rfl w.heap.size 2 (.int .i64 0) 1 8 Try.underlying22 info_int rfl (by decide) _ n _ rfl HO1.out [.int .i64 (j : Int)] rfl (by simp [Value.oneCell']) rfl (by omega) (by decide) (by omega) ?_)
            intro a5 c5 w5 ho5 _ hb5
            have HO5 := Lib.hid ho5; have HB5 := Lib.hid (HB1.out.trans hb5)
            clear ho5 hb5
            go_wp2
            go_roundw
            case rel => exact ⟨j + 1, n + 1, a5, c5, by omega, by go_num, by rw [F.out, HN.out]; simp, rfl, by rw [F.out, List.map_append]; exact HO5.out, HB5.out⟩
            case measure => simp [intOf] <;> omega
          · have g' : fastAt x.tones rest j = false := by simpa using g
            have F := Lib.hid (fastL_no g')
            rw [show (x.tones.take j).any (soon x.tones[j] rest) = false by rw [← fastAt_eq hlt]; exact g']
            clear g g'
            go_wp2
            go_roundw
            case rel => exact ⟨j + 1, n, a', c', by omega, by go_num, by rw [F.out]; exact HN.out, rfl, by rw [F.out]; exact HO1.out, HB1.out⟩
            case measure => simp [intOf] <;> omega
    · obtain rfl : k = x.tones.length := by omega
      have HO2 := Lib.hid (show OwnInts w.heap.size wr.heap.size wr (.slice a' n c') (fastL x.tones rest x.tones.length) from OwnInts.mk' (by rw [← HN.out]; exact HO.out))
      go_wp2
      go_ret
      exact ⟨_, rfl, HO2.out, hb⟩

def restIn (r : Int) : Prop := 1 ≤ r ∧ r ≤ 1000
instance (r : Int) : Decidable (restIn r) := by unfold restIn; infer_instance
theorem isRest_any (r : Bool) (b : Int) (w : World) (h : r = decide (restIn b)) :
    Calls Try.prog 86 #[.int .i64 b] w fun e w' => e = .returned (.bool r) ∧ w' = w := by
  have H := Lib.hid h; clear h
  go_enter Try.func86, Try.ntmps86
  go_wp2_with fail
  refine (within_any r _ _ _ _ H.out).mono ?_
  rintro e w1 ⟨rfl, rfl⟩
  go_wp2
  go_ret
  exact ⟨rfl, rfl⟩
theorem l26Rest_any (r : Bool) (b : Int) (w : World) (h : r = decide (restIn b)) :
    Calls Try.prog 80 #[.int .i64 b] w fun e w' => e = .returned (.bool r) ∧ w' = w := by
  have H := Lib.hid h; clear h
  go_enter Try.func80, Try.ntmps80
  go_wp2_with fail
  refine (l00In_any r _ _ _ _ H.out).mono ?_
  rintro e w1 ⟨rfl, rfl⟩
  go_wp2
  go_ret
  exact ⟨rfl, rfl⟩
noncomputable def repC (x : TunD) (r : Int) : Int := if validTunB x = true then if restIn r then 0 else 2 else 1
theorem rep_x {x : TunD} {r : Int} (h : ¬ validTunB x = true) : repC x r = 1 := if_neg h
theorem rep_r {x : TunD} {r : Int} (h : validTunB x = true) (h2 : ¬ restIn r) : repC x r = 2 := by unfold repC; rw [if_pos h, if_neg h2]
theorem rep_ok {x : TunD} {r : Int} (h : validTunB x = true) (h2 : restIn r) : repC x r = 0 := by unfold repC; rw [if_pos h, if_pos h2]
theorem rep_zero {x : TunD} {r : Int} : repC x r = 0 ↔ validTunB x = true ∧ restIn r := by
  constructor
  · intro h
    by_cases h1 : validTunB x = true
    · by_cases h2 : restIn r
      · exact ⟨h1, h2⟩
      · rw [rep_r h1 h2] at h; cases h
    · rw [rep_x h1] at h; cases h
  · rintro ⟨h1, h2⟩; exact rep_ok h1 h2
noncomputable def frV (x : TunD) (r : Int) : List Int := if repC x r = 0 then fastL x.tones r x.tones.length else []
theorem fr_len (x : TunD) (r : Int) : (frV x r).length ≤ 1048576 := by
  unfold frV; split
  · rename_i h
    have h1 := fastL_len x.tones r x.tones.length
    have := tun_len (rep_zero.1 h).1
    omega
  · simp

set_option maxHeartbeats 1000000 in
theorem repeated_any (vt lv : Value) (x : TunD) (r : Int) (w : World) (h : Tun w vt lv x) (hx : x.name.size ≤ maxLen) :
    Calls Try.prog 82 #[vt, .int .i64 r] w fun e w' => e = .returned (.int .i64 (repC x r)) ∧ Below w.heap.size w w' := by
  obtain ⟨rfl, hlv⟩ := h
  by_cases gx : validTunB x = true
  · have GX := Lib.hid gx
    by_cases gb : restIn r
    · rw [rep_ok gx gb]
      have GB := Lib.hid (yesB gb); clear gx gb
      go_enter Try.func82, Try.ntmps82
      go_wp2_with fail
      refine (implValidTun_any _ lv x _ ⟨rfl, hlv.mono (by (repeat (first | with_reducible exact Below.refl _ _ | with_reducible exact hbw | (with_reducible refine Below.setCell ?_ ?_ _; rotate_left; · first | exact Nat.le_refl _ | omega | (simp; done) | (simp; omega)) | (with_reducible refine Below.alloc ?_ ?_ _; rotate_left; · first | exact Nat.le_refl _ | omega | (simp; done) | (simp; omega)) | with_reducible refine below_drewN ?_ _ | with_reducible refine Below.drew ?_)))⟩ hx).mono ?_
      rw [GX.out]
      rintro e w1 ⟨rfl, hb⟩
      have hbw : Below w.heap.size w w1 := Below.trans (by (repeat (first | with_reducible exact Below.refl _ _ | with_reducible exact hbw | (with_reducible refine Below.setCell ?_ ?_ _; rotate_left; · first | exact Nat.le_refl _ | omega | (simp; done) | (simp; omega)) | (with_reducible refine Below.alloc ?_ ?_ _; rotate_left; · first | exact Nat.le_refl _ | omega | (simp; done) | (simp; omega)) | with_reducible refine below_drewN ?_ _ | with_reducible refine Below.drew ?_))) (hb.mono (by simp <;> omega))
      go_wp2_with fail
      refine (isRest_any true _ _ GB.out).mono ?_
      rintro e w3 ⟨rfl, rfl⟩
      go_wp2
      go_ret
      exact ⟨rfl, hbw⟩
    · rw [rep_r gx gb]
      have GB := Lib.hid (noB gb); clear gx gb
      go_enter Try.func82, Try.ntmps82
      go_wp2_with fail
      refine (implValidTun_any _ lv x _ ⟨rfl, hlv.mono (by (repeat (first | with_reducible exact Below.refl _ _ | with_reducible exact hbw | (with_reducible refine Below.setCell ?_ ?_ _; rotate_left; · first | exact Nat.le_refl _ | omega | (simp; done) | (simp; omega)) | (with_reducible refine Below.alloc ?_ ?_ _; rotate_left; · first | exact Nat.le_refl _ | omega | (simp; done) | (simp; omega)) | with_reducible refine below_drewN ?_ _ | with_reducible refine Below.drew ?_)))⟩ hx).mono ?_
      rw [GX.out]
      rintro e w1 ⟨rfl, hb⟩
      have hbw : Below w.heap.size w w1 := Below.trans (by (repeat (first | with_reducible exact Below.refl _ _ | with_reducible exact hbw | (with_reducible refine Below.setCell ?_ ?_ _; rotate_left; · first | exact Nat.le_refl _ | omega | (simp; done) | (simp; omega)) | (with_reducible refine Below.alloc ?_ ?_ _; rotate_left; · first | exact Nat.le_refl _ | omega | (simp; done) | (simp; omega)) | with_reducible refine below_drewN ?_ _ | with_reducible refine Below.drew ?_))) (hb.mono (by simp <;> omega))
      go_wp2_with fail
      refine (isRest_any false _ _ GB.out).mono ?_
      rintro e w3 ⟨rfl, rfl⟩
      go_wp2
      go_ret
      exact ⟨rfl, hbw⟩
  · rw [rep_x gx]
    have GX := Lib.hid (show validTunB x = false by simpa using gx); clear gx
    go_enter Try.func82, Try.ntmps82
    go_wp2_with fail
    refine (implValidTun_any _ lv x _ ⟨rfl, hlv.mono (by (repeat (first | with_reducible exact Below.refl _ _ | with_reducible exact hbw | (with_reducible refine Below.setCell ?_ ?_ _; rotate_left; · first | exact Nat.le_refl _ | omega | (simp; done) | (simp; omega)) | (with_reducible refine Below.alloc ?_ ?_ _; rotate_left; · first | exact Nat.le_refl _ | omega | (simp; done) | (simp; omega)) | with_reducible refine below_drewN ?_ _ | with_reducible refine Below.drew ?_)))⟩ hx).mono ?_
    rw [GX.out]
    rintro e w1 ⟨rfl, hb⟩
    have hbw : Below w.heap.size w w1 := Below.trans (by (repeat (first | with_reducible exact Below.refl _ _ | with_reducible exact hbw | (with_reducible refine Below.setCell ?_ ?_ _; rotate_left; · first | exact Nat.le_refl _ | omega | (simp; done) | (simp; omega)) | (with_reducible refine Below.alloc ?_ ?_ _; rotate_left; · first | exact Nat.le_refl _ | omega | (simp; done) | (simp; omega)) | with_reducible refine below_drewN ?_ _ | with_reducible refine Below.drew ?_))) (hb.mono (by simp <;> omega))
    go_wp2
    go_ret
    exact ⟨rfl, hbw⟩

set_option maxHeartbeats 1000000 in
theorem implFastRepeats_any (v : Value) (x : TunD) (r : Int) (w : World) (h : RdTun w v x) (ok : x.ok) (_ : x.tones.length ≤ 1048576) (_ : I64 r) :
    Calls Try.prog 39 #[v, .int .i64 r] w fun e w' => ∃ v', e = .returned (.tuple #[v', .int .i64 (repC x r)]) ∧ OwnInts w.heap.size w'.heap.size w' v' (frV x r) ∧ Below w.heap.size w w' := by
  obtain ⟨lv, rfl, hlv⟩ := h
  by_cases ga : repC x r = 0
  · have AV := Lib.hid (rep_zero.1 ga)
    have E := Lib.hid (show frV x r = fastL x.tones r x.tones.length by unfold frV; rw [if_pos ga])
    have d0 : (repC x r != 0) = false := by simpa using ga
    have A0 := Lib.hid ga; clear ga
    go_enter Try.func39, Try.ntmps39
    go_wp2_with fail
    refine (repeated_any _ lv x r _ ⟨rfl, hlv.mono (by (repeat (first | with_reducible exact Below.refl _ _ | with_reducible exact hbw | (with_reducible refine Below.setCell ?_ ?_ _; rotate_left; · first | exact Nat.le_refl _ | omega | (simp; done) | (simp; omega)) | (with_reducible refine Below.alloc ?_ ?_ _; rotate_left; · first | exact Nat.le_refl _ | omega | (simp; done) | (simp; omega)) | with_reducible refine below_drewN ?_ _ | with_reducible refine Below.drew ?_)))⟩ ok.1).mono ?_
    rintro e w1 ⟨rfl, hb⟩
    have hbw : Below w.heap.size w w1 := Below.trans (by (repeat (first | with_reducible exact Below.refl _ _ | with_reducible exact hbw | (with_reducible refine Below.setCell ?_ ?_ _; rotate_left; · first | exact Nat.le_refl _ | omega | (simp; done) | (simp; omega)) | (with_reducible refine Below.alloc ?_ ?_ _; rotate_left; · first | exact Nat.le_refl _ | omega | (simp; done) | (simp; omega)) | with_reducible refine below_drewN ?_ _ | with_reducible refine Below.drew ?_))) (hb.mono (by simp <;> omega))
    have y0 : w1.cell? ⟨w.heap.size, 0, none⟩ = some (.string x.name) := cellB hb (by simp [go_sem])
    have y1 : w1.cell? ⟨w.heap.size, 1, none⟩ = some lv := cellB hb (by simp [go_sem])
    clear hb
    go_wp2_with fail
    refine (fastRepeats_any _ lv x r _ ⟨rfl, hlv.mono hbw⟩ AV.out.1).mono ?_
    rintro e w2 ⟨v2, rfl, ho2, h2⟩
    obtain ⟨a2, c2, rfl⟩ := ho2.form
    have HO2 := Lib.hid (ho2.wide (B' := w.heap.size) (E' := w2.heap.size) hbw.size (Nat.le_refl _))
    clear ho2
    go_wp2
    go_ret2
    exact ⟨_, by rw [A0.out]; rfl, by rw [E.out]; exact HO2.out, hbw.trans (h2.mono hbw.size)⟩
  · have E := Lib.hid (show frV x r = [] by unfold frV; rw [if_neg ga])
    have d0 : (repC x r != 0) = true := by simpa using ga
    clear ga
    go_enter Try.func39, Try.ntmps39
    go_wp2_with fail
    refine (repeated_any _ lv x r _ ⟨rfl, hlv.mono (by (repeat (first | with_reducible exact Below.refl _ _ | with_reducible exact hbw | (with_reducible refine Below.setCell ?_ ?_ _; rotate_left; · first | exact Nat.le_refl _ | omega | (simp; done) | (simp; omega)) | (with_reducible refine Below.alloc ?_ ?_ _; rotate_left; · first | exact Nat.le_refl _ | omega | (simp; done) | (simp; omega)) | with_reducible refine below_drewN ?_ _ | with_reducible refine Below.drew ?_)))⟩ ok.1).mono ?_
    rintro e w1 ⟨rfl, hb⟩
    have hbw : Below w.heap.size w w1 := Below.trans (by (repeat (first | with_reducible exact Below.refl _ _ | with_reducible exact hbw | (with_reducible refine Below.setCell ?_ ?_ _; rotate_left; · first | exact Nat.le_refl _ | omega | (simp; done) | (simp; omega)) | (with_reducible refine Below.alloc ?_ ?_ _; rotate_left; · first | exact Nat.le_refl _ | omega | (simp; done) | (simp; omega)) | with_reducible refine below_drewN ?_ _ | with_reducible refine Below.drew ?_))) (hb.mono (by simp <;> omega))
    clear hb
    go_wp2
    go_ret2
    exact ⟨_, rfl, by rw [E.out]; exact OwnInts.nil _ _ _, hbw⟩

set_option maxHeartbeats 1000000 in
theorem specFastRepeats_any (v : Value) (x : TunD) (r : Int) (w : World) (h : RdTun w v x) (ok : x.ok) (_ : x.tones.length ≤ 1048576) (_ : I64 r) :
    Calls Try.prog 38 #[v, .int .i64 r] w fun e w' => ∃ v', e = .returned (.tuple #[v', .int .i64 (repC x r)]) ∧ OwnInts w.heap.size w'.heap.size w' v' (frV x r) ∧ Below w.heap.size w w' := by
  obtain ⟨lv, rfl, hlv⟩ := h
  by_cases gx : validTunB x = true
  · have GX := Lib.hid gx
    by_cases gb : restIn r
    · have E := Lib.hid (show frV x r = fastL x.tones r x.tones.length by unfold frV; rw [if_pos (rep_ok gx gb)])
      have E2 := Lib.hid (rep_ok gx gb)
      have GB := Lib.hid (yesB gb); clear gx gb
      go_enter Try.func38, Try.ntmps38
      go_wp2_with fail
      refine (l25Ok_any _ lv x _ ⟨by simp [go_sem], by simp [go_sem], hlv.mono (by (repeat (first | with_reducible exact Below.refl _ _ | with_reducible exact hbw | (with_reducible refine Below.setCell ?_ ?_ _; rotate_left; · first | exact Nat.le_refl _ | omega | (simp; done) | (simp; omega)) | (with_reducible refine Below.alloc ?_ ?_ _; rotate_left; · first | exact Nat.le_refl _ | omega | (simp; done) | (simp; omega)) | with_reducible refine below_drewN ?_ _ | with_reducible refine Below.drew ?_))), ok.1⟩).mono ?_
      rw [GX.out]
      rintro e w1 ⟨rfl, hb⟩
      have hbw : Below w.heap.size w w1 := Below.trans (by (repeat (first | with_reducible exact Below.refl _ _ | with_reducible exact hbw | (with_reducible refine Below.setCell ?_ ?_ _; rotate_left; · first | exact Nat.le_refl _ | omega | (simp; done) | (simp; omega)) | (with_reducible refine Below.alloc ?_ ?_ _; rotate_left; · first | exact Nat.le_refl _ | omega | (simp; done) | (simp; omega)) | with_reducible refine below_drewN ?_ _ | with_reducible refine Below.drew ?_))) (hb.mono (by simp <;> omega))
      have y0 : w1.cell? ⟨w.heap.size, 0, none⟩ = some (.string x.name) := cellB hb (by simp [go_sem])
      have y1 : w1.cell? ⟨w.heap.size, 1, none⟩ = some lv := cellB hb (by simp [go_sem])
      go_wp2_with fail
      refine (l26Rest_any true _ _ GB.out).mono ?_
      rintro e w3 ⟨rfl, rfl⟩
      go_wp2_with fail
      refine (l26Fast_any _ lv x r _ ⟨y0, y1, hlv.mono hbw, ok.1⟩ GX.out).mono ?_
      rintro e w2 ⟨v2, rfl, ho2, h2⟩
      obtain ⟨a2, c2, rfl⟩ := ho2.form
      have HO2 := Lib.hid (ho2.wide (B' := w.heap.size) (E' := w2.heap.size) hbw.size (Nat.le_refl _))
      clear ho2
      go_wp2
      go_ret2
      exact ⟨_, by rw [E2.out]; rfl, by rw [E.out]; exact HO2.out, hbw.trans (h2.mono hbw.size)⟩
    · have E := Lib.hid (show frV x r = [] by unfold frV; rw [if_neg (by rw [rep_r gx gb]; decide)])
      have E2 := Lib.hid (rep_r gx gb)
      have GB := Lib.hid (noB gb); clear gx gb
      go_enter Try.func38, Try.ntmps38
      go_wp2_with fail
      refine (l25Ok_any _ lv x _ ⟨by simp [go_sem], by simp [go_sem], hlv.mono (by (repeat (first | with_reducible exact Below.refl _ _ | with_reducible exact hbw | (with_reducible refine Below.setCell ?_ ?_ _; rotate_left; · first | exact Nat.le_refl _ | omega | (simp; done) | (simp; omega)) | (with_reducible refine Below.alloc ?_ ?_ _; rotate_left; · first | exact Nat.le_refl _ | omega | (simp; done) | (simp; omega)) | with_reducible refine below_drewN ?_ _ | with_reducible refine Below.drew ?_))), ok.1⟩).mono ?_
      rw [GX.out]
      rintro e w1 ⟨rfl, hb⟩
      have hbw : Below w.heap.size w w1 := Below.trans (by (repeat (first | with_reducible exact Below.refl _ _ | with_reducible exact hbw | (with_reducible refine Below.setCell ?_ ?_ _; rotate_left; · first | exact Nat.le_refl _ | omega | (simp; done) | (simp; omega)) | (with_reducible refine Below.alloc ?_ ?_ _; rotate_left; · first | exact Nat.le_refl _ | omega | (simp; done) | (simp; omega)) | with_reducible refine below_drewN ?_ _ | with_reducible refine Below.drew ?_))) (hb.mono (by simp <;> omega))
      go_wp2_with fail
      refine (l26Rest_any false _ _ GB.out).mono ?_
      rintro e w3 ⟨rfl, rfl⟩
      go_wp2
      go_ret2
      exact ⟨_, by rw [E2.out]; rfl, by rw [E.out]; exact OwnInts.nil _ _ _, hbw⟩
  · have E := Lib.hid (show frV x r = [] by unfold frV; rw [if_neg (by rw [rep_x gx]; decide)])
    have E2 := Lib.hid (rep_x (r := r) gx)
    have GX := Lib.hid (show validTunB x = false by simpa using gx); clear gx
    go_enter Try.func38, Try.ntmps38
    go_wp2_with fail
    refine (l25Ok_any _ lv x _ ⟨by simp [go_sem], by simp [go_sem], hlv.mono (by (repeat (first | with_reducible exact Below.refl _ _ | with_reducible exact hbw | (with_reducible refine Below.setCell ?_ ?_ _; rotate_left; · first | exact Nat.le_refl _ | omega | (simp; done) | (simp; omega)) | (with_reducible refine Below.alloc ?_ ?_ _; rotate_left; · first | exact Nat.le_refl _ | omega | (simp; done) | (simp; omega)) | with_reducible refine below_drewN ?_ _ | with_reducible refine Below.drew ?_))), ok.1⟩).mono ?_
    rw [GX.out]
    rintro e w1 ⟨rfl, hb⟩
    have hbw : Below w.heap.size w w1 := Below.trans (by (repeat (first | with_reducible exact Below.refl _ _ | with_reducible exact hbw | (with_reducible refine Below.setCell ?_ ?_ _; rotate_left; · first | exact Nat.le_refl _ | omega | (simp; done) | (simp; omega)) | (with_reducible refine Below.alloc ?_ ?_ _; rotate_left; · first | exact Nat.le_refl _ | omega | (simp; done) | (simp; omega)) | with_reducible refine below_drewN ?_ _ | with_reducible refine Below.drew ?_))) (hb.mono (by simp <;> omega))
    go_wp2
    go_ret2
    exact ⟨_, by rw [E2.out]; rfl, by rw [E.out]; exact OwnInts.nil _ _ _, hbw⟩


end Go.Proofs.Ytgelilelmmocgaa
