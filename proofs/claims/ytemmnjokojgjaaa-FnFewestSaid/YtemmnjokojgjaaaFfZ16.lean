import Derived.Test.YtemmnjokojgjaaaFfZ12
import Derived.Test.YtemmnjokojgjaaaFfZ14
import Derived.Test.YtemmnjokojgjaaaFfZ15
import Derived.Test.YtemmnjokojgjaaaFfZ1
/- Contracts of l26Fast and of FastRepeats of both packages. -/
set_option linter.unusedSimpArgs false
set_option linter.unnecessarySimpa false
set_option linter.unusedVariables false
set_option maxRecDepth 100000
namespace Go.Proofs.Ytemmnjokojgjaaa
open Go.RowKit

theorem any_step {ts : List Ton} {P : Ton → Bool} {j : Nat} (h : j < ts.length) : (ts.take (j + 1)).any P = ((ts.take j).any P || P ts[j]) := by
  rw [List.take_succ_eq_append_getElem h, List.any_append]; simp

def restIn (r : Int) : Prop := 1 ≤ r ∧ r ≤ 1000
instance (r : Int) : Decidable (restIn r) := by unfold restIn; infer_instance
theorem isRest_any (r : Bool) (b : Int) (w : World) (h : r = decide (restIn b)) :
    Calls Try.prog 96 #[.int .i64 b] w fun e w' => e = .returned (.bool r) ∧ w' = w := by
  have H := Lib.hid h; clear h
  go_enter Try.func96, Try.ntmps96
  go_wp2_with fail
  refine (within_any r _ _ _ _ H.out).mono ?_
  rintro e w1 ⟨rfl, rfl⟩
  go_wp2
  go_ret
  exact ⟨rfl, rfl⟩
noncomputable def repC (x : TunD) (r : Int) : Int := if validTunB x = true then if restIn r then 0 else 2 else 1
theorem rep_x {x : TunD} {r : Int} (h : ¬ validTunB x = true) : repC x r = 1 := if_neg h
theorem rep_r {x : TunD} {r : Int} (h : validTunB x = true) (h2 : ¬ restIn r) : repC x r = 2 := by unfold repC; rw [if_pos h, if_neg h2]
theorem rep_ok {x : TunD} {r : Int} (h : validTunB x = true) (h2 : restIn r) : repC x r = 0 := by unfold repC; rw [if_pos h, if_pos h2]
theorem rep_zero {x : TunD} {r : Int} : repC x r = 0 ↔ validTunB x = true ∧ restIn r := by
  constructor
  · intro h
    by_cases h1 : validTunB x = true
    · by_cases h2 : restIn r
      · exact ⟨h1, h2⟩
      · rw [rep_r h1 h2] at h; cases h
    · rw [rep_x h1] at h; cases h
  · rintro ⟨h1, h2⟩; exact rep_ok h1 h2
noncomputable def frV (x : TunD) (r : Int) : List Int := if repC x r = 0 then fastL x.tones r x.tones.length else []
theorem fr_len (x : TunD) (r : Int) : (frV x r).length ≤ 1048576 := by
  unfold frV; split
  · rename_i h
    have h1 := fastL_len x.tones r x.tones.length
    have := tun_len (rep_zero.1 h).1
    omega
  · simp

set_option maxHeartbeats 1000000 in
theorem repeated_any (vt lv : Value) (x : TunD) (r : Int) (w : World) (h : Tun w vt lv x) (hx : x.name.size ≤ maxLen) :
    Calls Try.prog 68 #[vt, .int .i64 r] w fun e w' => e = .returned (.int .i64 (repC x r)) ∧ Below w.heap.size w w' := by
  obtain ⟨rfl, hlv⟩ := h
  by_cases gx : validTunB x = true
  · have GX := Lib.hid gx
    by_cases gb : restIn r
    · rw [rep_ok gx gb]
      have GB := Lib.hid (yesB gb); clear gx gb
      go_enter Try.func68, Try.ntmps68
      go_wp2_with fail
      refine (implValidTun_any _ lv x _ ⟨rfl, hlv.mono (by (repeat (first | with_reducible exact Below.refl _ _ | with_reducible exact hbw | (with_reducible refine Below.setCell ?_ ?_ _; rotate_left; · first | exact Nat.le_refl _ | omega | (simp; done) | (simp; omega)) | (with_reducible refine Below.alloc ?_ ?_ _; rotate_left; · first | exact Nat.le_refl _ | omega | (simp; done) | (simp; omega)) | with_reducible refine below_drewN ?_ _ | with_reducible refine Below.drew ?_)))⟩ hx).mono ?_
      rw [GX.out]
      rintro e w1 ⟨rfl, hb⟩
      have hbw : Below w.heap.size w w1 := Below.trans (by (repeat (first | with_reducible exact Below.refl _ _ | with_reducible exact hbw | (with_reducible refine Below.setCell ?_ ?_ _; rotate_left; · first | exact Nat.le_refl _ | omega | (simp; done) | (simp; omega)) | (with_reducible refine Below.alloc ?_ ?_ _; rotate_left; · first | exact Nat.le_refl _ | omega | (simp; done) | (simp; omega)) | with_reducible refine below_drewN ?_ _ | with_reducible refine Below.drew ?_))) (hb.mono (by simp <;> omega))
      go_wp2_with fail
      refine (isRest_any true _ _ GB.out).mono ?_
      rintro e w3 ⟨rfl, rfl⟩
      go_wp2
      go_ret
      exact ⟨rfl, hbw⟩
    · rw [rep_r gx gb]
      have GB := Lib.hid (noB gb); clear gx gb
      go_enter Try.func68, Try.ntmps68
      go_wp2_with fail
      refine (implValidTun_any _ lv x _ ⟨rfl, hlv.mono (by (repeat (first | with_reducible exact Below.refl _ _ | with_reducible exact hbw | (with_reducible refine Below.setCell ?_ ?_ _; rotate_left; · first | exact Nat.le_refl _ | omega | (simp; done) | (simp; omega)) | (with_reducible refine Below.alloc ?_ ?_ _; rotate_left; · first | exact Nat.le_refl _ | omega | (simp; done) | (simp; omega)) | with_reducible refine below_drewN ?_ _ | with_reducible refine Below.drew ?_)))⟩ hx).mono ?_
      rw [GX.out]
      rintro e w1 ⟨rfl, hb⟩
      have hbw : Below w.heap.size w w1 := Below.trans (by (repeat (first | with_reducible exact Below.refl _ _ | with_reducible exact hbw | (with_reducible refine Below.setCell ?_ ?_ _; rotate_left; · first | exact Nat.le_refl _ | omega | (simp; done) | (simp; omega)) | (with_reducible refine Below.alloc ?_ ?_ _; rotate_left; · first | exact Nat.le_refl _ | omega | (simp; done) | (simp; omega)) | with_reducible refine below_drewN ?_ _ | with_reducible refine Below.drew ?_))) (hb.mono (by simp <;> omega))
      go_wp2_with fail
      refine (isRest_any false _ _ GB.out).mono ?_
      rintro e w3 ⟨rfl, rfl⟩
      go_wp2
      go_ret
      exact ⟨rfl, hbw⟩
  · rw [rep_x gx]
    have GX := Lib.hid (show validTunB x = false by simpa using gx); clear gx
    go_enter Try.func68, Try.ntmps68
    go_wp2_with fail
    refine (implValidTun_any _ lv x _ ⟨rfl, hlv.mono (by (repeat (first | with_reducible exact Below.refl _ _ | with_reducible exact hbw | (with_reducible refine Below.setCell ?_ ?_ _; rotate_left; · first | exact Nat.le_refl _ | omega | (simp; done) | (simp; omega)) | (with_reducible refine Below.alloc ?_ ?_ _; rotate_left; · first | exact Nat.le_refl _ | omega | (simp; done) | (simp; omega)) | with_reducible refine below_drewN ?_ _ | with_reducible refine Below.drew ?_)))⟩ hx).mono ?_
    rw [GX.out]
    rintro e w1 ⟨rfl, hb⟩
    have hbw : Below w.heap.size w w1 := Below.trans (by (repeat (first | with_reducible exact Below.refl _ _ | with_reducible exact hbw | (with_reducible refine Below.setCell ?_ ?_ _; rotate_left; · first | exact Nat.le_refl _ | omega | (simp; done) | (simp; omega)) | (with_reducible refine Below.alloc ?_ ?_ _; rotate_left; · first | exact Nat.le_refl _ | omega | (simp; done) | (simp; omega)) | with_reducible refine below_drewN ?_ _ | with_reducible refine Below.drew ?_))) (hb.mono (by simp <;> omega))
    go_wp2
    go_ret
    exact ⟨rfl, hbw⟩

set_option maxHeartbeats 1000000 in
theorem implFastRepeats_any (v : Value) (x : TunD) (r : Int) (w : World) (h : RdTun w v x) (ok : x.ok) (_ : x.tones.length ≤ 1048576) (_ : I64 r) :
    Calls Try.prog 38 #[v, .int .i64 r] w fun e w' => ∃ v', e = .returned (.tuple #[v', .int .i64 (repC x r)]) ∧ OwnInts w.heap.size w'.heap.size w' v' (frV x r) ∧ Below w.heap.size w w' := by
  obtain ⟨lv, rfl, hlv⟩ := h
  by_cases ga : repC x r = 0
  · have AV := Lib.hid (rep_zero.1 ga)
    have E := Lib.hid (show frV x r = fastL x.tones r x.tones.length by unfold frV; rw [if_pos ga])
    have d0 : (repC x r != 0) = false := by simpa using ga
    have A0 := Lib.hid ga; clear ga
    go_enter Try.func38, Try.ntmps38
    go_wp2_with fail
    refine (repeated_any _ lv x r _ ⟨rfl, hlv.mono (by (repeat (first | with_reducible exact Below.refl _ _ | with_reducible exact hbw | (with_reducible refine Below.setCell ?_ ?_ _; rotate_left; · first | exact Nat.le_refl _ | omega | (simp; done) | (simp; omega)) | (with_reducible refine Below.alloc ?_ ?_ _; rotate_left; · first | exact Nat.le_refl _ | omega | (simp; done) | (simp; omega)) | with_reducible refine below_drewN ?_ _ | with_reducible refine Below.drew ?_)))⟩ ok.1).mono ?_
    rintro e w1 ⟨rfl, hb⟩
    have hbw : Below w.heap.size w w1 := Below.trans (by (repeat (first | with_reducible exact Below.refl _ _ | with_reducible exact hbw | (with_reducible refine Below.setCell ?_ ?_ _; rotate_left; · first | exact Nat.le_refl _ | omega | (simp; done) | (simp; omega)) | (with_reducible refine Below.alloc ?_ ?_ _; rotate_left; · first | exact Nat.le_refl _ | omega | (simp; done) | (simp; omega)) | with_reducible refine below_drewN ?_ _ | with_reducible refine Below.drew ?_))) (hb.mono (by simp <;> omega))
    have y0 : w1.cell? ⟨w.heap.size, 0, none⟩ = some (.string x.name) := cellB hb (by simp [go_sem])
    have y1 : w1.cell? ⟨w.heap.size, 1, none⟩ = some lv := cellB hb (by simp [go_sem])
    clear hb
    go_wp2_with fail
    refine (fastRepeats_any _ lv x r _ ⟨rfl, hlv.mono hbw⟩ AV.out.1).mono ?_
    rintro e w2 ⟨v2, rfl, ho2, h2⟩
    obtain ⟨a2, c2, rfl⟩ := ho2.form
    have HO2 := Lib.hid (ho2.wide (B' := w.heap.size) (E' := w2.heap.size) hbw.size (Nat.le_refl _))
    clear ho2
    go_wp2
    go_ret2
    exact ⟨_, by rw [A0.out]; rfl, by rw [E.out]; exact HO2.out, hbw.trans (h2.mono hbw.size)⟩
  · have E := Lib.hid (show frV x r = [] by unfold frV; rw [if_neg ga])
    have d0 : (repC x r != 0) = true := by simpa using ga
    clear ga
    go_enter Try.func38, Try.ntmps38
    go_wp2_with fail
    refine (repeated_any _ lv x r _ ⟨rfl, hlv.mono (by (repeat (first | with_reducible exact Below.refl _ _ | with_reducible exact hbw | (with_reducible refine Below.setCell ?_ ?_ _; rotate_left; · first | exact Nat.le_refl _ | omega | (simp; done) | (simp; omega)) | (with_reducible refine Below.alloc ?_ ?_ _; rotate_left; · first | exact Nat.le_refl _ | omega | (simp; done) | (simp; omega)) | with_reducible refine below_drewN ?_ _ | with_reducible refine Below.drew ?_)))⟩ ok.1).mono ?_
    rintro e w1 ⟨rfl, hb⟩
    have hbw : Below w.heap.size w w1 := Below.trans (by (repeat (first | with_reducible exact Below.refl _ _ | with_reducible exact hbw | (with_reducible refine Below.setCell ?_ ?_ _; rotate_left; · first | exact Nat.le_refl _ | omega | (simp; done) | (simp; omega)) | (with_reducible refine Below.alloc ?_ ?_ _; rotate_left; · first | exact Nat.le_refl _ | omega | (simp; done) | (simp; omega)) | with_reducible refine below_drewN ?_ _ | with_reducible refine Below.drew ?_))) (hb.mono (by simp <;> omega))
    clear hb
    go_wp2
    go_ret2
    exact ⟨_, rfl, by rw [E.out]; exact OwnInts.nil _ _ _, hbw⟩

end Go.Proofs.Ytemmnjokojgjaaa
/- Contract of impl.ThinTune. -/
set_option linter.unusedSimpArgs false
set_option linter.unnecessarySimpa false
set_option linter.unusedVariables false
set_option maxRecDepth 100000
namespace Go.Proofs.Ytemmnjokojgjaaa
open Go.RowKit

/-- The tones that are kept, of the first k. -/
def thinL (ts : List Ton) (rest : Int) : Nat → List Ton
  | 0 => []
  | k + 1 => match ts[k]? with
    | some x => if (thinL ts rest k).any (soon x rest) = true then thinL ts rest k else thinL ts rest k ++ [x]
    | none => thinL ts rest k
theorem thin_yes {ts : List Ton} {rest : Int} {k : Nat} (h : k < ts.length) (g : (thinL ts rest k).any (soon ts[k] rest) = true) : thinL ts rest (k + 1) = thinL ts rest k := by
  conv => lhs; unfold thinL
  rw [List.getElem?_eq_getElem h]; simp only; rw [if_pos g]
theorem thin_no {ts : List Ton} {rest : Int} {k : Nat} (h : k < ts.length) (g : (thinL ts rest k).any (soon ts[k] rest) = false) : thinL ts rest (k + 1) = thinL ts rest k ++ [ts[k]] := by
  conv => lhs; unfold thinL
  rw [List.getElem?_eq_getElem h]; simp only; rw [if_neg (by rw [g]; exact Bool.false_ne_true)]
theorem thin_len (ts : List Ton) (rest : Int) : ∀ k, (thinL ts rest k).length ≤ k
  | 0 => Nat.le_refl _
  | k + 1 => by
    have := thin_len ts rest k
    unfold thinL; split
    · split
      · omega
      · simp; omega
    · omega
theorem thin_sub (ts : List Ton) (rest : Int) : ∀ k, ∀ y ∈ thinL ts rest k, y ∈ ts
  | 0, y, hy => by cases hy
  | k + 1, y, hy => by
    unfold thinL at hy
    split at hy
    · rename_i x hx
      split at hy
      · exact thin_sub ts rest k y hy
      · rcases List.mem_append.1 hy with hy | hy
        · exact thin_sub ts rest k y hy
        · rw [List.mem_singleton.1 hy]
          obtain ⟨hk, rfl⟩ := List.getElem?_eq_some_iff.1 hx
          exact List.getElem_mem hk
    · exact thin_sub ts rest k y hy
theorem thin_bd {x : TunD} (h : validTunB x = true) (rest : Int) (k : Nat) : ∀ y ∈ thinL x.tones rest k, tonBd y := fun y hy => tun_bd h y (thin_sub _ _ _ y hy)
noncomputable def thinV (x : TunD) (r : Int) : TunD := if repC x r = 0 then ⟨x.name, thinL x.tones r x.tones.length⟩ else ⟨.empty, []⟩
theorem thinV_len (x : TunD) (r : Int) : (thinV x r).tones.length ≤ 1048576 := by
  unfold thinV; split
  · rename_i h
    have h1 := thin_len x.tones r x.tones.length
    have := tun_len (rep_zero.1 h).1
    simp only; omega
  · simp
theorem thin_cells (ts : List Ton) (x : Ton) : (ts ++ [x]).flatMap Ton.cells = ts.flatMap Ton.cells ++ [.int .i64 x.note, .int .i64 x.start, .int .i64 x.len] := by rw [List.flatMap_append]; simp [Ton.cells]
theorem ownT_zeroN (B E : Nat) (w : World) : OwnTun B E w (.agg #[.string .empty, .slice none 0 0]) ⟨.empty, []⟩ := ⟨_, rfl, owns_nil _ _ _ _, fun k hk => by simp [Value.ownBlock] at hk⟩
theorem touch_frozenN {B E : Nat} {w w' : World} (h : Touch B E w w') {p : Addr} {v : Bool} (hp : p.block < w.heap.size) (ho : p.block < B ∨ E ≤ p.block) (hc : w.frozen? p = v) : w'.frozen? p = v := by
  have := h.block p.block hp ho
  unfold World.frozen? at *
  rw [this]; exact hc

set_option maxHeartbeats 4000000 in
theorem implThinTune_any (v : Value) (x : TunD) (r : Int) (w : World) (h : RdTun w v x) (ok : x.ok) (hs : x.tones.length ≤ 1048576) (_ : I64 r) :
    Calls Try.prog 37 #[v, .int .i64 r] w fun e w' => ∃ v', e = .returned (.tuple #[v', .int .i64 (repC x r)]) ∧ OwnTun w.heap.size w'.heap.size w' v' (thinV x r) ∧ Below w.heap.size w w' := by
  obtain ⟨lv, rfl, hlv⟩ := h
  obtain ⟨a, ca, rfl, hca, hcm, _⟩ := id hlv
  have hn := ok.1
  by_cases ga : repC x r = 0
  rotate_left
  · have E1 := Lib.hid (show thinV x r = ⟨.empty, []⟩ by unfold thinV; rw [if_neg ga])
    have E2 := Lib.hid (show repC x r = repC x r from rfl)
    have d0 : (repC x r != 0) = true := by simpa using ga
    clear ga
    go_enter Try.func37, Try.ntmps37
    go_wp2_with fail
    refine (repeated_any _ (.slice a x.tones.length ca) x r _ ⟨rfl, hlv.mono (by (repeat (first | with_reducible exact Below.refl _ _ | with_reducible exact hbw | (with_reducible refine Below.setCell ?_ ?_ _; rotate_left; · first | exact Nat.le_refl _ | omega | (simp; done) | (simp; omega)) | (with_reducible refine Below.alloc ?_ ?_ _; rotate_left; · first | exact Nat.le_refl _ | omega | (simp; done) | (simp; omega)) | with_reducible refine below_drewN ?_ _ | with_reducible refine Below.drew ?_)))⟩ hn).mono ?_
    rintro e w1 ⟨rfl, hb⟩
    have HB := Lib.hid (show Below w.heap.size w w1 from Below.trans (by (repeat (first | with_reducible exact Below.refl _ _ | with_reducible exact hbw | (with_reducible refine Below.setCell ?_ ?_ _; rotate_left; · first | exact Nat.le_refl _ | omega | (simp; done) | (simp; omega)) | (with_reducible refine Below.alloc ?_ ?_ _; rotate_left; · first | exact Nat.le_refl _ | omega | (simp; done) | (simp; omega)) | with_reducible refine below_drewN ?_ _ | with_reducible refine Below.drew ?_))) (hb.mono (by simp <;> omega)))
    have hz : w.heap.size + 2 ≤ w1.heap.size := by have := hb.size; simp at this; omega
    have z0 : w1.cell? ⟨w.heap.size, 0, none⟩ = some (.string x.name) := cellB hb (by simp [go_sem])
    have z1 : w1.cell? ⟨w.heap.size, 1, none⟩ = some (.slice a x.tones.length ca) := cellB hb (by simp [go_sem])
    have r0 : w1.cell? ⟨w.heap.size + 1, 0, none⟩ = some (.string ⟨#[]⟩) := cellB hb (by simp [go_sem])
    have r1 : w1.cell? ⟨w.heap.size + 1, 1, none⟩ = some (.slice none 0 0) := cellB hb (by simp [go_sem])
    have f0 : w1.frozen? ⟨w.heap.size + 1, 0, none⟩ = false := frozenL hb (by simp) (by simp [go_sem])
    have f1 : w1.frozen? ⟨w.heap.size + 1, 1, none⟩ = false := frozenL hb (by simp) (by simp [go_sem])
    have hz0 : w.heap.size < w1.heap.size := by omega
    have hz2 : w.heap.size + 1 < w1.heap.size := by omega
    clear hb
    go_wp2
    refine bodyPost_ret (v := .tuple #[.agg #[.string ⟨#[]⟩, .slice none 0 0], .int .i64 (repC x r)]) (by simp [results, Try.results37, go_sem, hz2, r0, r1]) rfl ⟨_, rfl, by rw [E1.out]; exact ownT_zeroN _ _ _, ?_⟩
    have hbw := HB.out
    (repeat (first | with_reducible exact Below.refl _ _ | with_reducible exact hbw | (with_reducible refine Below.setCell ?_ ?_ _; rotate_left; · first | exact Nat.le_refl _ | omega | (simp; done) | (simp; omega)) | (with_reducible refine Below.alloc ?_ ?_ _; rotate_left; · first | exact Nat.le_refl _ | omega | (simp; done) | (simp; omega)) | with_reducible refine below_drewN ?_ _ | with_reducible refine Below.drew ?_))
  have AV := Lib.hid (rep_zero.1 ga)
  have E1 := Lib.hid (show thinV x r = ⟨x.name, thinL x.tones r x.tones.length⟩ by unfold thinV; rw [if_pos ga])
  have E2 := Lib.hid ga
  have d0 : (repC x r != 0) = false := by simpa using ga
  have hln := tun_len AV.out.1
  clear ga
  go_enter Try.func37, Try.ntmps37
  go_wp2_with fail
  refine (repeated_any _ (.slice a x.tones.length ca) x r _ ⟨rfl, hlv.mono (by (repeat (first | with_reducible exact Below.refl _ _ | with_reducible exact hbw | (with_reducible refine Below.setCell ?_ ?_ _; rotate_left; · first | exact Nat.le_refl _ | omega | (simp; done) | (simp; omega)) | (with_reducible refine Below.alloc ?_ ?_ _; rotate_left; · first | exact Nat.le_refl _ | omega | (simp; done) | (simp; omega)) | with_reducible refine below_drewN ?_ _ | with_reducible refine Below.drew ?_)))⟩ hn).mono ?_
  rintro e w1 ⟨rfl, hb⟩
  have HB := Lib.hid (show Below w.heap.size w w1 from Below.trans (by (repeat (first | with_reducible exact Below.refl _ _ | with_reducible exact hbw | (with_reducible refine Below.setCell ?_ ?_ _; rotate_left; · first | exact Nat.le_refl _ | omega | (simp; done) | (simp; omega)) | (with_reducible refine Below.alloc ?_ ?_ _; rotate_left; · first | exact Nat.le_refl _ | omega | (simp; done) | (simp; omega)) | with_reducible refine below_drewN ?_ _ | with_reducible refine Below.drew ?_))) (hb.mono (by simp <;> omega)))
  have hz : w.heap.size + 2 ≤ w1.heap.size := by have := hb.size; simp at this; omega
  have z0 : w1.cell? ⟨w.heap.size, 0, none⟩ = some (.string x.name) := cellB hb (by simp [go_sem])
  have z1 : w1.cell? ⟨w.heap.size, 1, none⟩ = some (.slice a x.tones.length ca) := cellB hb (by simp [go_sem])
  have r0 : w1.cell? ⟨w.heap.size + 1, 0, none⟩ = some (.string ⟨#[]⟩) := cellB hb (by simp [go_sem])
  have r1 : w1.cell? ⟨w.heap.size + 1, 1, none⟩ = some (.slice none 0 0) := cellB hb (by simp [go_sem])
  have f0 : w1.frozen? ⟨w.heap.size + 1, 0, none⟩ = false := frozenL hb (by simp) (by simp [go_sem])
  have f1 : w1.frozen? ⟨w.heap.size + 1, 1, none⟩ = false := frozenL hb (by simp) (by simp [go_sem])
  have hz0 : w.heap.size < w1.heap.size := by omega
  have hz2 : w.heap.size + 1 < w1.heap.size := by omega
  clear hb
  obtain ⟨w2, rfl⟩ : ∃ w2 : World, w2 = w1 := ⟨_, rfl⟩
  have HB2 := Lib.hid HB.out
  go_wp2_with fail
  go_loopw [23, 9] (fun i _ wr => ∃ (k n : Nat) (a' : Option Addr) (c' : Nat), k ≤ x.tones.length ∧ i = .int .i64 (k : Int) ∧ n = (thinL x.tones r k).length ∧ wr.ownsRow (w2.heap.size + 1) 92 3 (.slice a' n c') n ((thinL x.tones r k).flatMap Ton.cells) ∧ Below w2.heap.size w2 wr ∧ w2.heap.size + 1 ≤ wr.heap.size ∧ wr.cell? ⟨w2.heap.size, 0, none⟩ = some (.string x.name) ∧ wr.cell? ⟨w2.heap.size, 1, none⟩ = some (.slice a' n c') ∧ wr.frozen? ⟨w2.heap.size, 1, none⟩ = false) (fun i _ _ => x.tones.length - (intOf i).toNat)
  case atStart => exact ⟨0, 0, none, 0, Nat.zero_le _, by go_num, rfl, by simpa [thinL] using owns_nil _ _ _ _, by (repeat (first | with_reducible exact Below.refl _ _ | with_reducible exact hbw | (with_reducible refine Below.setCell ?_ ?_ _; rotate_left; · first | exact Nat.le_refl _ | omega | (simp; done) | (simp; omega)) | (with_reducible refine Below.alloc ?_ ?_ _; rotate_left; · first | exact Nat.le_refl _ | omega | (simp; done) | (simp; omega)) | with_reducible refine below_drewN ?_ _ | with_reducible refine Below.drew ?_)), by simp, by simp [go_sem], by simp [go_sem], by simp [go_sem]⟩
  case round =>
    obtain ⟨k, n, a', c', hk, rfl, hnn, ho, hb, hzr, d0, d1, df⟩ := hrel
    have HO := Lib.hid ho; have HN := Lib.hid hnn; have HBr := Lib.hid hb; clear ho
    have fl := thin_len x.tones r k
    rw [← hnn] at fl
    clear hnn
    by_cases hlt : k < x.tones.length
    · obtain ⟨b1, o1, rfl, hB1, t0, t1, t2⟩ := ((hlv.mono HB2.out).mono hb).at hlt
      have l1 : b1 < wr.heap.size + 1 := by omega
      have l2 : w2.heap.size < wr.heap.size := by omega
      have l3 : w2.heap.size < wr.heap.size + 1 := by omega
      have hto : Tons wr (.slice a' n c') (thinL x.tones r k) := Tons.of_owns (xs := thinL x.tones r k) (by rw [← HN.out]; exact HO.out)
      have HTO := Lib.hid hto
      clear hb hto
      cases g : (thinL x.tones r k).any (soon x.tones[k] r)
      · have F := Lib.hid (thin_no hlt g)
        have G := Lib.hid g; clear g
        go_wp2_with fail
        refine (tooSoon_any _ (thinL x.tones r k) x.tones[k] r _ (HTO.out.mono (by (repeat (first | with_reducible exact Below.refl _ _ | with_reducible exact hbw | (with_reducible refine Below.setCell ?_ ?_ _; rotate_left; · first | exact Nat.le_refl _ | omega | (simp; done) | (simp; omega)) | (with_reducible refine Below.alloc ?_ ?_ _; rotate_left; · first | exact Nat.le_refl _ | omega | (simp; done) | (simp; omega)) | with_reducible refine below_drewN ?_ _ | with_reducible refine Below.drew ?_)))) (tun_bd AV.out.1 _ (List.getElem_mem hlt)) (thin_bd AV.out.1 r k)).mono ?_
        rw [G.out]
        rintro e w3 ⟨rfl, hb3⟩
        have hst3 : Below wr.heap.size wr w3 := Below.trans (by (repeat (first | with_reducible exact Below.refl _ _ | with_reducible exact hbw | (with_reducible refine Below.setCell ?_ ?_ _; rotate_left; · first | exact Nat.le_refl _ | omega | (simp; done) | (simp; omega)) | (with_reducible refine Below.alloc ?_ ?_ _; rotate_left; · first | exact Nat.le_refl _ | omega | (simp; done) | (simp; omega)) | with_reducible refine below_drewN ?_ _ | with_reducible refine Below.drew ?_))) (hb3.mono (by simp <;> omega))
        have t0 : w3.cell? ⟨wr.heap.size, 0, none⟩ = some (.int .i64 x.tones[k].note) := cellB hb3 (by simp [go_sem])
        have t1 : w3.cell? ⟨wr.heap.size, 1, none⟩ = some (.int .i64 x.tones[k].start) := cellB hb3 (by simp [go_sem])
        have t2 : w3.cell? ⟨wr.heap.size, 2, none⟩ = some (.int .i64 x.tones[k].len) := cellB hb3 (by simp [go_sem])
        have hz3 : wr.heap.size + 1 ≤ w3.heap.size := by have := hb3.size; simp at this; omega
        have d0 := cellB hst3 d0
        have d1 := cellB hst3 d1
        have df := frozenL hst3 (by simp; omega) df
        have HO3 := Lib.hid (owns_mono HO.out hst3); have HB3 := Lib.hid (HBr.out.trans (hst3.mono (by omega)))
        have l4 : w2.heap.size < w3.heap.size := by omega
        have l6 : w2.heap.size < w3.heap.size + 1 := by omega
        have l7 : wr.heap.size < w3.heap.size := by omega
        have l8 : wr.heap.size < w3.heap.size + 1 := by omega
        clear hb3 hst3
        go_wp2_with (at_builtin; refine append_one_at rfl _ _ 27 rfl (w2.heap.size + 1) 92 _ 3 24 Try.underlying27 info_Tone rfl (by decide) _ n _ rfl HO3.out [.int .i64 x.tones[k].note, .int .i64 x.tones[k].start, .int .i64 x.tones[k].len] rfl (by intro u hu; simp at hu; rcases hu with rfl | rfl | rfl <;> rfl) w3.heap.size rfl rfl (by omega) (by decide) (by omega) ?_)
        intro a5 cap5 w5 ho5 hg5 hb5 hat5
        have hst : Below (w2.heap.size + 1) w3 w5 := hb5
        clear hg5 hat5 hb5
        have HBr := HB3
        have hz5 := hst.size
        have d0' := cellL hst (by simp) d0
        have d1' := cellL hst (by simp) d1
        have df' := frozenL hst (by simp) df
        have ht : Touch w2.heap.size (w2.heap.size + 1) w5 (w5.setCell ⟨w2.heap.size, 1, none⟩ (.slice a5 (n + 1) cap5)) := (Touch.refl _ _ w5).setCell (p := ⟨w2.heap.size, 1, none⟩) (by simp) _
        have hlt5 : w2.heap.size < w5.heap.size := by omega
        have hbw5 : Below w2.heap.size w2 (w5.setCell ⟨w2.heap.size, 1, none⟩ (.slice a5 (n + 1) cap5)) := ht.below (HBr.out.trans (hst.mono (by omega))) (Nat.le_refl _) (by omega)
        have e0' : (w5.setCell ⟨w2.heap.size, 1, none⟩ (.slice a5 (n + 1) cap5)).cell? ⟨w2.heap.size, 0, none⟩ = some (.string x.name) := by simp [go_sem, d0', hlt5, df']
        have e1' : (w5.setCell ⟨w2.heap.size, 1, none⟩ (.slice a5 (n + 1) cap5)).cell? ⟨w2.heap.size, 1, none⟩ = some (.slice a5 (n + 1) cap5) := by simp [go_sem, d1', hlt5, df']
        have ef' : (w5.setCell ⟨w2.heap.size, 1, none⟩ (.slice a5 (n + 1) cap5)).frozen? ⟨w2.heap.size, 1, none⟩ = false := by simp [go_sem, hlt5, df']
        have ho6 := ownsRow_setCell_below (a := ⟨w2.heap.size, 1, none⟩) ho5 (by simp) (.slice a5 (n + 1) cap5)
        have EW := Lib.hid e0'; have EW1 := Lib.hid e1'; have EF := Lib.hid ef'; have BW := Lib.hid hbw5; have HO6 := Lib.hid ho6
        clear e0' e1' ef' hbw5 ho6 ht hst ho5 d0 d1 df
        go_wp2
        go_roundw
        case rel => exact ⟨k + 1, n + 1, a5, cap5, by omega, by go_num, by rw [F.out, HN.out]; simp, by rw [F.out, thin_cells]; exact HO6.out, BW.out, by simp [World.setCell]; omega, EW.out, EW1.out, EF.out⟩
        case measure => simp [intOf] <;> omega
      · have F := Lib.hid (thin_yes hlt g)
        have G := Lib.hid g; clear g
        go_wp2_with fail
        refine (tooSoon_any _ (thinL x.tones r k) x.tones[k] r _ (HTO.out.mono (by (repeat (first | with_reducible exact Below.refl _ _ | with_reducible exact hbw | (with_reducible refine Below.setCell ?_ ?_ _; rotate_left; · first | exact Nat.le_refl _ | omega | (simp; done) | (simp; omega)) | (with_reducible refine Below.alloc ?_ ?_ _; rotate_left; · first | exact Nat.le_refl _ | omega | (simp; done) | (simp; omega)) | with_reducible refine below_drewN ?_ _ | with_reducible refine Below.drew ?_)))) (tun_bd AV.out.1 _ (List.getElem_mem hlt)) (thin_bd AV.out.1 r k)).mono ?_
        rw [G.out]
        rintro e w3 ⟨rfl, hb3⟩
        have hst3 : Below wr.heap.size wr w3 := Below.trans (by (repeat (first | with_reducible exact Below.refl _ _ | with_reducible exact hbw | (with_reducible refine Below.setCell ?_ ?_ _; rotate_left; · first | exact Nat.le_refl _ | omega | (simp; done) | (simp; omega)) | (with_reducible refine Below.alloc ?_ ?_ _; rotate_left; · first | exact Nat.le_refl _ | omega | (simp; done) | (simp; omega)) | with_reducible refine below_drewN ?_ _ | with_reducible refine Below.drew ?_))) (hb3.mono (by simp <;> omega))
        have t0 : w3.cell? ⟨wr.heap.size, 0, none⟩ = some (.int .i64 x.tones[k].note) := cellB hb3 (by simp [go_sem])
        have t1 : w3.cell? ⟨wr.heap.size, 1, none⟩ = some (.int .i64 x.tones[k].start) := cellB hb3 (by simp [go_sem])
        have t2 : w3.cell? ⟨wr.heap.size, 2, none⟩ = some (.int .i64 x.tones[k].len) := cellB hb3 (by simp [go_sem])
        have hz3 : wr.heap.size + 1 ≤ w3.heap.size := by have := hb3.size; simp at this; omega
        have d0 := cellB hst3 d0
        have d1 := cellB hst3 d1
        have df := frozenL hst3 (by simp; omega) df
        have HO3 := Lib.hid (owns_mono HO.out hst3); have HB3 := Lib.hid (HBr.out.trans (hst3.mono (by omega)))
        have l4 : w2.heap.size < w3.heap.size := by omega
        have l6 : w2.heap.size < w3.heap.size + 1 := by omega
        have l7 : wr.heap.size < w3.heap.size := by omega
        have l8 : wr.heap.size < w3.heap.size + 1 := by omega
        clear hb3 hst3
        go_wp2
        go_roundw
        case rel => exact ⟨k + 1, n, a', c', by omega, by go_num, by rw [F.out]; exact HN.out, by rw [F.out]; exact HO3.out, HB3.out, by omega, d0, d1, df⟩
        case measure => simp [intOf] <;> omega
    · obtain rfl : k = x.tones.length := by omega
      clear hb
      have HO2 := Lib.hid HO.out
      have r0 := cellB HBr.out r0
      have r1 := cellB HBr.out r1
      have f0 := frozenL HBr.out (by simp; omega) f0
      have f1 := frozenL HBr.out (by simp; omega) f1
      have n1 : ¬ w.heap.size + 1 = w2.heap.size := by omega
      have l5 : w.heap.size + 1 < wr.heap.size := by omega
      have hzr := HBr.out.size
      have HB5 := Lib.hid (HB2.out.trans (HBr.out.mono HB2.out.size))
      clear df
      go_wp2
      refine bodyPost_ret (v := .tuple #[.agg #[.string x.name, .slice a' n c'], .int .i64 0]) (by simp [results, Try.results37, go_sem, l5, r0, r1]) rfl ⟨_, by rw [E2.out], ?_, ?_⟩
      · rw [E1.out]
        refine ⟨.slice a' n c', rfl, ?_⟩
        have ho3 : OwnRow (w2.heap.size + 1) wr.heap.size wr 92 3 (.slice a' n c') (thinL x.tones r x.tones.length).length ((thinL x.tones r x.tones.length).flatMap Ton.cells) := OwnRow.mk' (by rw [← HN.out]; exact HO2.out)
        refine (ho3.touch (B' := w.heap.size + 1) (E' := w.heap.size + 2) ?_ (Or.inr (by omega))).wide (by omega) (by simp)
        have htc := Touch.refl (w.heap.size + 1) (w.heap.size + 2) wr
        (repeat (first | with_reducible exact Touch.refl _ _ _ | with_reducible exact htc | (with_reducible refine Touch.setCell ?_ ?_ _; rotate_left; · (simp only; omega)) | (with_reducible refine Touch.setNew ?_ ?_ _; rotate_left; · (first | (simp only; omega) | (simp; done) | (simp; omega))) | with_reducible refine Touch.alloc ?_ _ | with_reducible refine Touch.drewN ?_ _ | with_reducible refine Touch.drew ?_))
      · have hbw := HB5.out
        (repeat (first | with_reducible exact Below.refl _ _ | with_reducible exact hbw | (with_reducible refine Below.setCell ?_ ?_ _; rotate_left; · first | exact Nat.le_refl _ | omega | (simp; done) | (simp; omega)) | (with_reducible refine Below.alloc ?_ ?_ _; rotate_left; · first | exact Nat.le_refl _ | omega | (simp; done) | (simp; omega)) | with_reducible refine below_drewN ?_ _ | with_reducible refine Below.drew ?_))

end Go.Proofs.Ytemmnjokojgjaaa
/- What the law FnFewest asks, plain. -/
set_option linter.unusedSimpArgs false
set_option linter.unnecessarySimpa false
set_option linter.unusedVariables false
set_option maxRecDepth 100000
namespace Go.Proofs.Ytemmnjokojgjaaa
open Go.RowKit

theorem shK_all {s : Int} (h : -24 ≤ s) (h2 : s ≤ 24) : ∃ k : Nat, k < 49 ∧ shK k = s := by
  by_cases h0 : 0 ≤ s
  · exact ⟨2 * s.toNat, by omega, by rw [shK_even]; omega⟩
  · exact ⟨2 * (-s - 1).toNat + 1, by omega, by rw [shK_odd]; omega⟩
theorem bs_min (x : TunD) (ns : List Int) : ∀ k : Nat, k ≤ 49 → (-24 ≤ (bsTo x ns k).1 ∧ (bsTo x ns k).1 ≤ 24) ∧ (bsTo x ns k).2 = arC x ns (bsTo x ns k).1 ∧ ∀ j : Nat, j < k → (bsTo x ns k).2 ≤ arC x ns (shK j)
  | 0, _ => ⟨⟨by simp [bsTo], by simp [bsTo]⟩, rfl, fun j h => by omega⟩
  | k + 1, hk => by
    obtain ⟨i0, i1, i2⟩ := bs_min x ns k (by omega)
    by_cases h : arC x ns (shK k) < (bsTo x ns k).2
    · rw [bs_yes h]
      refine ⟨shK_bd (by omega), rfl, fun j hj => ?_⟩
      by_cases e : j = k
      · subst e; exact Int.le_refl _
      · have := i2 j (by omega); simp only; omega
    · rw [bs_no h]
      refine ⟨i0, i1, fun j hj => ?_⟩
      by_cases e : j = k
      · subst e; omega
      · exact i2 j (by omega)
theorem best_fn {x : TunD} {ns : List Int} (h : askC x ns 0 = 0) : askC x ns (bsN x ns) = 0 ∧ acoV x ns (bsN x ns) = bsL x ns ∧ 0 ≤ bsL x ns ∧ (-24 ≤ bsN x ns ∧ bsN x ns ≤ 24) ∧ ∀ s, -24 ≤ s → s ≤ 24 → askC x ns s = 0 ∧ bsL x ns ≤ acoV x ns s := by
  obtain ⟨hx, hv, _⟩ := ask_zero.1 h
  have hs := set_in hv
  have e1 : bsN x ns = (bsTo x ns 49).1 := if_pos h
  have e2 : bsL x ns = (bsTo x ns 49).2 := if_pos h
  obtain ⟨m0, m1, m2⟩ := bs_min x ns 49 (Nat.le_refl _)
  rw [e1, e2]
  have ha : askC x ns (bsTo x ns 49).1 = 0 := ask_ok hx hv m0
  have hb := ar_bd (b := (bsTo x ns 49).1) hx hs
  refine ⟨ha, by rw [m1]; exact if_pos ha, by rw [m1]; unfold arC; omega, m0, fun s s0 s1 => ?_⟩
  have ha2 : askC x ns s = 0 := ask_ok hx hv ⟨s0, s1⟩
  obtain ⟨k, hk, rfl⟩ := shK_all s0 s1
  have : acoV x ns (shK k) = arC x ns (shK k) := if_pos ha2
  rw [this]
  exact ⟨ha2, m2 k hk⟩
theorem best_bad {x : TunD} {ns : List Int} (h : ¬ askC x ns 0 = 0) : bsN x ns = 0 ∧ bsL x ns = 0 := ⟨if_neg h, if_neg h⟩

theorem few_inv (ns zs : List Int) : ∀ k : Nat, k ≤ 49 → (few ns zs k).1 = true → (-24 ≤ (few ns zs k).2.1 ∧ (few ns zs k).2.1 ≤ 24) ∧ exB (few ns zs k).2.1 zs = true ∧ (few ns zs k).2.2 = exV ns (few ns zs k).2.1 zs
  | 0, _, h => by simp [few_zero] at h
  | k + 1, hk, h => by
    by_cases g : fewBetter ns zs k (few ns zs k) = true
    · rw [few_yes g]
      refine ⟨shK_bd (by omega), ?_, rfl⟩
      unfold fewBetter at g
      simp only [Bool.and_eq_true] at g
      exact g.1
    · rw [few_no g] at h ⊢
      exact few_inv ns zs k (by omega) h
theorem exV_in {ns : List Int} {b : Int} {zs : List Int} (h : exB b zs = true) (z : Int) (hz : z ∈ zs) : z + b ∈ ns ∨ z + b ∈ exV ns b zs := by
  have ho : okZs b zs := by
    by_cases g : okZs b zs
    · exact g
    · rw [exB_no g] at h; cases h
  by_cases hn : z + b ∈ ns
  · exact .inl hn
  · right
    rw [exV_yes ho, notesOfL_mem]
    unfold exL
    refine List.mem_filter.2 ⟨List.mem_map.2 ⟨z, hz, rfl⟩, by simpa using hn⟩
/-- The notes that are missing make a tune complete. -/
theorem few_fn {x : TunD} {ns : List Int} (h : feC x ns = 0) : askC x ns 0 = 0 ∧ askC x ns (feN x ns) = 0 ∧ (-24 ≤ feN x ns ∧ feN x ns ≤ 24) ∧ enC x ns (feN x ns) = 0 ∧ enV x ns (feN x ns) = feV x ns ∧ (feV x ns = [] → bsL x ns = 0) ∧
    ∀ all : List Int, validSet all = true → (∀ y, y ∈ ns ∨ y ∈ feV x ns → y ∈ all) → askC x all (feN x ns) = 0 ∧ mtV x all (feN x ns) = 0 := by
  have h0 : askC x ns 0 = 0 := by
    unfold feC at h
    split at h
    · assumption
    · exact h
  obtain ⟨hx, hv, _⟩ := ask_zero.1 h0
  have hs := set_in hv
  have hf : (few ns (sel allT x.tones) 49).1 = true := by
    unfold feC at h
    rw [if_pos h0] at h
    split at h
    · assumption
    · omega
  obtain ⟨b0, b1, b2⟩ := few_inv ns (sel allT x.tones) 49 (Nat.le_refl _) hf
  have e1 : feN x ns = (few ns (sel allT x.tones) 49).2.1 := if_pos h0
  have e2 : feV x ns = (few ns (sel allT x.tones) 49).2.2 := if_pos h0
  rw [← e1] at b0 b1 b2
  rw [← e2] at b2
  have ha : askC x ns (feN x ns) = 0 := ask_ok hx hv b0
  have e3 : enC x ns (feN x ns) = 0 := by unfold enC; rw [if_pos ha, if_pos b1]
  have e4 : enV x ns (feN x ns) = feV x ns := by unfold enV; rw [if_pos ha, b2]
  have hin : ∀ t ∈ x.tones, t.note + feN x ns ∈ ns ∨ t.note + feN x ns ∈ feV x ns := fun t ht => by
    rw [b2]
    exact exV_in b1 t.note (by rw [sel_eq]; exact List.mem_map.2 ⟨t, ht, rfl⟩)
  refine ⟨h0, ha, b0, e3, e4, fun hn => ?_, fun all hva hsub => ?_⟩
  · have hm : missV x ns (feN x ns) = 0 := miss_zero.2 fun t ht => by
      rcases hin t ht with h | h
      · exact h
      · rw [hn] at h; cases h
    have hc := (cost_zero hx hs).1 hm
    obtain ⟨_, _, p0, _, p⟩ := best_fn h0
    have := (p _ b0.1 b0.2).2
    have e5 : acoV x ns (feN x ns) = arC x ns (feN x ns) := if_pos ha
    omega
  · have ha2 : askC x all (feN x ns) = 0 := ask_ok hx hva b0
    refine ⟨ha2, ?_⟩
    have : mtV x all (feN x ns) = missV x all (feN x ns) := if_pos ha2
    rw [this, miss_zero]
    exact fun t ht => hsub _ (hin t ht)

/-- A note put into a row, as the law does it. -/
def withL : List Int → Int → Bool → List Int
  | [], x, d => if d = true then [] else [x]
  | y :: ys, x, d => (if d = false ∧ x ≤ y then [x] else []) ++ (if y ≠ x then [y] else []) ++ withL ys x (d || decide (x ≤ y))
theorem withL_mem : ∀ (l : List Int) (x : Int) (d : Bool) (y : Int), y ∈ withL l x d ↔ (y ∈ l ∧ y ≠ x) ∨ (d = false ∧ y = x)
  | [], x, d, y => by cases d <;> simp [withL]
  | a :: l, x, d, y => by
    have e1 : y ∈ (if d = false ∧ x ≤ a then [x] else []) ↔ (d = false ∧ x ≤ a) ∧ y = x := by split <;> simp [*]
    have e2 : y ∈ (if a ≠ x then [a] else []) ↔ a ≠ x ∧ y = a := by split <;> simp [*]
    have e3 : (d || decide (x ≤ a)) = false ↔ d = false ∧ ¬ x ≤ a := by simp
    simp only [withL, List.mem_append]
    rw [withL_mem l x _ y, e1, e2, e3, List.mem_cons]
    constructor
    · rintro ((⟨⟨d0, _⟩, rfl⟩ | ⟨ha, rfl⟩) | ⟨hl, hne⟩ | ⟨⟨d0, _⟩, rfl⟩)
      · exact .inr ⟨d0, rfl⟩
      · exact .inl ⟨.inl rfl, ha⟩
      · exact .inl ⟨.inr hl, hne⟩
      · exact .inr ⟨d0, rfl⟩
    · rintro (⟨rfl | hl, hne⟩ | ⟨d0, rfl⟩)
      · exact .inl (.inr ⟨hne, rfl⟩)
      · exact .inr (.inl ⟨hl, hne⟩)
      · by_cases h : y ≤ a
        · exact .inl (.inl ⟨⟨d0, h⟩, rfl⟩)
        · exact .inr (.inr ⟨⟨d0, h⟩, rfl⟩)
theorem withL_len : ∀ (l : List Int) (x : Int) (d : Bool), (withL l x d).length ≤ l.length + 1
  | [], x, d => by cases d <;> simp [withL]
  | a :: l, x, d => by
    have ih := withL_len l x (d || decide (x ≤ a))
    have ih2 : (d || decide (x ≤ a)) = true → (withL l x (d || decide (x ≤ a))).length ≤ l.length := by
      intro h; rw [h]
      clear ih
      induction l with
      | nil => simp [withL]
      | cons b l ihl => simp only [withL]; rw [Bool.true_or]; simp; split <;> simp <;> omega
    simp only [withL, List.length_append, List.length_cons]
    by_cases h : d = false ∧ x ≤ a
    · have := ih2 (by simp [h.2])
      rw [if_pos h]
      split <;> simp <;> omega
    · rw [if_neg h]
      split <;> simp <;> omega

theorem soon_none (ts : List Ton) (rest : Int) : ∀ k, k ≤ ts.length → ∀ j, fastAt (thinL ts rest k) rest j = false
  | 0, _, j => by simp [thinL, fastAt]
  | k + 1, hk, j => by
    have ih := soon_none ts rest k (by omega)
    have hkt : k < ts.length := by omega
    cases g : (thinL ts rest k).any (soon ts[k] rest) with
    | true => rw [thin_yes hkt g]; exact ih j
    | false =>
      rw [thin_no hkt g]
      by_cases hj : j < (thinL ts rest k).length
      · have := ih j
        rw [fastAt_eq hj] at this
        rw [fastAt_eq (by simp; omega), List.take_append_of_le_length (by omega), List.getElem_append_left hj]
        exact this
      · by_cases e : j = (thinL ts rest k).length
        · subst e
          rw [fastAt_eq (by simp), List.take_left', List.getElem_append_right (Nat.le_refl _)]
          · simpa using g
          · rfl
        · unfold fastAt
          rw [List.getElem?_eq_none (by simp; omega)]
theorem fast_none {ts : List Ton} {rest : Int} (h : ∀ j, fastAt ts rest j = false) : ∀ k, fastL ts rest k = []
  | 0 => rfl
  | k + 1 => by rw [fastL_no (h k)]; exact fast_none h k
theorem fast_empty {ts : List Ton} {rest : Int} : ∀ k, fastL ts rest k = [] → ∀ j, j < k → fastAt ts rest j = false
  | 0, _, j, hj => by omega
  | k + 1, h, j, hj => by
    cases g : fastAt ts rest k with
    | true => rw [fastL_yes g] at h; simp at h
    | false =>
      rw [fastL_no g] at h
      by_cases e : j = k
      · subst e; exact g
      · exact fast_empty k h j (by omega)
theorem thin_all {ts : List Ton} {rest : Int} (h : ∀ j, j < ts.length → fastAt ts rest j = false) : ∀ k, k ≤ ts.length → thinL ts rest k = ts.take k
  | 0, _ => rfl
  | k + 1, hk => by
    have hkt : k < ts.length := by omega
    have ih := thin_all h k (by omega)
    have hf := h k hkt
    rw [fastAt_eq hkt] at hf
    rw [thin_no hkt (by rw [ih]; exact hf), ih, List.take_succ_eq_append_getElem hkt]
theorem thin_sublist (ts : List Ton) (rest : Int) : ∀ k, (thinL ts rest k).Sublist (ts.take k)
  | 0 => List.Sublist.slnil
  | k + 1 => by
    have ih := thin_sublist ts rest k
    by_cases hk : k < ts.length
    · rw [List.take_succ_eq_append_getElem hk]
      cases g : (thinL ts rest k).any (soon ts[k] rest) with
      | true => rw [thin_yes hk g]; exact ih.trans (List.sublist_append_left _ _)
      | false => rw [thin_no hk g]; exact ih.append (List.Sublist.refl _)
    · have e : thinL ts rest (k + 1) = thinL ts rest k := by
        conv => lhs; unfold thinL
        rw [List.getElem?_eq_none (by omega)]
      rw [e, List.take_of_length_le (by omega)]
      rw [List.take_of_length_le (by omega)] at ih
      exact ih
theorem thin_fn {x : TunD} {r : Int} (h : repC x r = 0) : repC (thinV x r) r = 0 ∧ validTunB (thinV x r) = true ∧ frV (thinV x r) r = [] ∧ (frV x r = [] → thinV x r = x) := by
  obtain ⟨hx, hr⟩ := rep_zero.1 h
  have ho := validTunB_iff.1 hx
  have e : thinV x r = ⟨x.name, thinL x.tones r x.tones.length⟩ := if_pos h
  have hsub := thin_sublist x.tones r x.tones.length
  rw [List.take_length] at hsub
  have hv : validTunB (thinV x r) = true := by
    rw [e]
    have hst : Stc (thinL x.tones r x.tones.length) := (tones_stc ho.tones).sublist hsub
    refine validTunB_iff.2 ⟨ho.name, by have := hsub.length_le; have := ho.len; simp only; omega, tones_of_stc hst fun y hy => ?_⟩
    obtain ⟨k, hk, rfl⟩ := List.getElem_of_mem (hsub.subset hy)
    exact (ho.tones k hk hk).1
  have h2 : repC (thinV x r) r = 0 := rep_ok hv hr
  refine ⟨h2, hv, ?_, fun hf => ?_⟩
  · have : frV (thinV x r) r = fastL (thinV x r).tones r (thinV x r).tones.length := if_pos h2
    rw [this, e]
    exact fast_none (soon_none x.tones r x.tones.length (Nat.le_refl _)) _
  · have e2 : frV x r = fastL x.tones r x.tones.length := if_pos h
    rw [e2] at hf
    have := thin_all (fun j hj => fast_empty _ hf j hj) x.tones.length (Nat.le_refl _)
    rw [e, this, List.take_length]
theorem thin_bad {x : TunD} {r : Int} (h : ¬ repC x r = 0) : (thinV x r).tones.length = 0 := by unfold thinV; rw [if_neg h]; rfl

end Go.Proofs.Ytemmnjokojgjaaa
/- The laws' test of the length of their bytes. -/
set_option linter.unusedSimpArgs false
set_option linter.unnecessarySimpa false
set_option linter.unusedVariables false
set_option maxRecDepth 100000
namespace Go.Proofs.Ytemmnjokojgjaaa
open Go.RowKit

theorem b10Long_any (a : Option Addr) (n c : Nat) (w : World) (hn : n ≤ 9223372036854775807) : Calls Try.prog 22 #[.slice a n c] w fun e w' => e = .returned (.bool (decide (1048576 < (n : Int)))) ∧ w = w' := by
  by_cases g : 1048576 < (n : Int)
  · have d1 : decide (1048576 < (n : Int)) = true := by simpa using g
    have d2 : decide (1048576 < n) = true := by simp; omega
    have D := Lib.hid d1
    clear g
    go_enter Try.func22, Try.ntmps22
    go_wp2
    go_ret
    exact ⟨by rw [D.out]; rfl, rfl⟩
  · have d1 : decide (1048576 < (n : Int)) = false := by simpa using g
    have d2 : decide (1048576 < n) = false := by simp; omega
    have D := Lib.hid d1
    clear g
    go_enter Try.func22, Try.ntmps22
    go_wp2
    go_ret
    exact ⟨by rw [D.out]; rfl, rfl⟩

end Go.Proofs.Ytemmnjokojgjaaa
