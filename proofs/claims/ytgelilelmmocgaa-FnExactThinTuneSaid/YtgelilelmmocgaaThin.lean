/- Contract of impl.ThinTune. -/
import Derived.Test.YtgelilelmmocgaaFastS
set_option linter.unusedSimpArgs false
set_option linter.unnecessarySimpa false
set_option linter.unusedVariables false
set_option maxRecDepth 100000
namespace Go.Proofs.Ytgelilelmmocgaa
open Go.RowKit

/-- The tones that are kept, of the first k. -/
def thinL (ts : List Ton) (rest : Int) : Nat → List Ton
  | 0 => []
  | k + 1 => match ts[k]? with
    | some x => if (thinL ts rest k).any (soon x rest) = true then thinL ts rest k else thinL ts rest k ++ [x]
    | none => thinL ts rest k
theorem thin_yes {ts : List Ton} {rest : Int} {k : Nat} (h : k < ts.length) (g : (thinL ts rest k).any (soon ts[k] rest) = true) : thinL ts rest (k + 1) = thinL ts rest k := by
  conv => lhs; unfold thinL
  rw [List.getElem?_eq_getElem h]; simp only; rw [if_pos g]
theorem thin_no {ts : List Ton} {rest : Int} {k : Nat} (h : k < ts.length) (g : (thinL ts rest k).any (soon ts[k] rest) = false) : thinL ts rest (k + 1) = thinL ts rest k ++ [ts[k]] := by
  conv => lhs; unfold thinL
  rw [List.getElem?_eq_getElem h]; simp only; rw [if_neg (by rw [g]; exact Bool.false_ne_true)]
theorem thin_len (ts : List Ton) (rest : Int) : ∀ k, (thinL ts rest k).length ≤ k
  | 0 => Nat.le_refl _
  | k + 1 => by
    have := thin_len ts rest k
    unfold thinL; split
    · split
      · omega
      · simp; omega
    · omega
theorem thin_sub (ts : List Ton) (rest : Int) : ∀ k, ∀ y ∈ thinL ts rest k, y ∈ ts
  | 0, y, hy => by cases hy
  | k + 1, y, hy => by
    unfold thinL at hy
    split at hy
    · rename_i x hx
      split at hy
      · exact thin_sub ts rest k y hy
      · rcases List.mem_append.1 hy with hy | hy
        · exact thin_sub ts rest k y hy
        · rw [List.mem_singleton.1 hy]
          obtain ⟨hk, rfl⟩ := List.getElem?_eq_some_iff.1 hx
          exact List.getElem_mem hk
    · exact thin_sub ts rest k y hy
theorem thin_bd {x : TunD} (h : validTunB x = true) (rest : Int) (k : Nat) : ∀ y ∈ thinL x.tones rest k, tonBd y := fun y hy => tun_bd h y (thin_sub _ _ _ y hy)
noncomputable def thinV (x : TunD) (r : Int) : TunD := if repC x r = 0 then ⟨x.name, thinL x.tones r x.tones.length⟩ else ⟨.empty, []⟩
theorem thinV_len (x : TunD) (r : Int) : (thinV x r).tones.length ≤ 1048576 := by
  unfold thinV; split
  · rename_i h
    have h1 := thin_len x.tones r x.tones.length
    have := tun_len (rep_zero.1 h).1
    simp only; omega
  · simp
theorem thin_cells (ts : List Ton) (x : Ton) : (ts ++ [x]).flatMap Ton.cells = ts.flatMap Ton.cells ++ [.int .i64 x.note, .int .i64 x.start, .int .i64 x.len] := by rw [List.flatMap_append]; simp [Ton.cells]
theorem ownT_zero (B E : Nat) (w : World) : OwnTun B E w (.agg #[.string .empty, .slice none 0 0]) ⟨.empty, []⟩ := ⟨_, rfl, owns_nil _ _ _ _, fun k hk => by simp [Value.ownBlock] at hk⟩
theorem touch_frozen {B E : Nat} {w w' : World} (h : Touch B E w w') {p : Addr} {v : Bool} (hp : p.block < w.heap.size) (ho : p.block < B ∨ E ≤ p.block) (hc : w.frozen? p = v) : w'.frozen? p = v := by
  have := h.block p.block hp ho
  unfold World.frozen? at *
  rw [this]; exact hc

set_option maxHeartbeats 4000000 in
theorem implThinTune_any (v : Value) (x : TunD) (r : Int) (w : World) (h : RdTun w v x) (ok : x.ok) (hs : x.tones.length ≤ 1048576) (_ : I64 r) :
    Calls Try.prog 41 #[v, .int .i64 r] w fun e w' => ∃ v', e = .returned (.tuple #[v', .int .i64 (repC x r)]) ∧ OwnTun w.heap.size w'.heap.size w' v' (thinV x r) ∧ Below w.heap.size w w' := by
  obtain ⟨lv, rfl, hlv⟩ := h
  obtain ⟨a, ca, rfl, hca, hcm, _⟩ := id hlv
  have hn := ok.1
  by_cases ga : repC x r = 0
  rotate_left
  · have E1 := Lib.hid (show thinV x r = ⟨.empty, []⟩ by unfold thinV; rw [if_neg ga])
    have E2 := Lib.hid (show repC x r = repC x r from rfl)
    have d0 : (repC x r != 0) = true := by simpa using ga
    clear ga
    go_enter Try.func41, Try.ntmps41
    go_wp2_with fail
    refine (repeated_any _ (.slice a x.tones.length ca) x r _ ⟨rfl, hlv.mono (by (repeat (first | with_reducible exact Below.refl _ _ | with_reducible exact hbw | (with_reducible refine Below.setCell ?_ ?_ _; rotate_left; · first | exact Nat.le_refl _ | omega | (simp; done) | (simp; omega)) | (with_reducible refine Below.alloc ?_ ?_ _; rotate_left; · first | exact Nat.le_refl _ | omega | (simp; done) | (simp; omega)) | with_reducible refine below_drewN ?_ _ | with_reducible refine Below.drew ?_)))⟩ hn).mono ?_
    rintro e w1 ⟨rfl, hb⟩
    have HB := Lib.hid (show Below w.heap.size w w1 from Below.trans (by (repeat (first | with_reducible exact Below.refl _ _ | with_reducible exact hbw | (with_reducible refine Below.setCell ?_ ?_ _; rotate_left; · first | exact Nat.le_refl _ | omega | (simp; done) | (simp; omega)) | (with_reducible refine Below.alloc ?_ ?_ _; rotate_left; · first | exact Nat.le_refl _ | omega | (simp; done) | (simp; omega)) | with_reducible refine below_drewN ?_ _ | with_reducible refine Below.drew ?_))) (hb.mono (by simp <;> omega)))
    have hz : w.heap.size + 2 ≤ w1.heap.size := by have := hb.size; simp at this; omega
    have z0 : w1.cell? ⟨w.heap.size, 0, none⟩ = some (.string x.name) := cellB hb (by simp [go_sem])
    have z1 : w1.cell? ⟨w.heap.size, 1, none⟩ = some (.slice a x.tones.length ca) := cellB hb (by simp [go_sem])
    have r0 : w1.cell? ⟨w.heap.size + 1, 0, none⟩ = some (.string ⟨#[]⟩) := cellB hb (by simp [go_sem])
    have r1 : w1.cell? ⟨w.heap.size + 1, 1, none⟩ = some (.slice none 0 0) := cellB hb (by simp [go_sem])
    have f0 : w1.frozen? ⟨w.heap.size + 1, 0, none⟩ = false := frozenL hb (by simp) (by simp [go_sem])
    have f1 : w1.frozen? ⟨w.heap.size + 1, 1, none⟩ = false := frozenL hb (by simp) (by simp [go_sem])
    have hz0 : w.heap.size < w1.heap.size := by omega
    have hz2 : w.heap.size + 1 < w1.heap.size := by omega
    clear hb
    go_wp2
    refine bodyPost_ret (v := .tuple #[.agg #[.string ⟨#[]⟩, .slice none 0 0], .int .i64 (repC x r)]) (by simp [results, Try.results41, go_sem, hz2, r0, r1]) rfl ⟨_, rfl, by rw [E1.out]; exact ownT_zero _ _ _, ?_⟩
    have hbw := HB.out
    (repeat (first | with_reducible exact Below.refl _ _ | with_reducible exact hbw | (with_reducible refine Below.setCell ?_ ?_ _; rotate_left; · first | exact Nat.le_refl _ | omega | (simp; done) | (simp; omega)) | (with_reducible refine Below.alloc ?_ ?_ _; rotate_left; · first | exact Nat.le_refl _ | omega | (simp; done) | (simp; omega)) | with_reducible refine below_drewN ?_ _ | with_reducible refine Below.drew ?_))
  have AV := Lib.hid (rep_zero.1 ga)
  have E1 := Lib.hid (show thinV x r = ⟨x.name, thinL x.tones r x.tones.length⟩ by unfold thinV; rw [if_pos ga])
  have E2 := Lib.hid ga
  have d0 : (repC x r != 0) = false := by simpa using ga
  have hln := tun_len AV.out.1
  clear ga
  go_enter Try.func41, Try.ntmps41
  go_wp2_with fail
  refine (repeated_any _ (.slice a x.tones.length ca) x r _ ⟨rfl, hlv.mono (by (repeat (first | with_reducible exact Below.refl _ _ | with_reducible exact hbw | (with_reducible refine Below.setCell ?_ ?_ _; rotate_left; · first | exact Nat.le_refl _ | omega | (simp; done) | (simp; omega)) | (with_reducible refine Below.alloc ?_ ?_ _; rotate_left; · first | exact Nat.le_refl _ | omega | (simp; done) | (simp; omega)) | with_reducible refine below_drewN ?_ _ | with_reducible refine Below.drew ?_)))⟩ hn).mono ?_
  rintro e w1 ⟨rfl, hb⟩
  have HB := Lib.hid (show Below w.heap.size w w1 from Below.trans (by (repeat (first | with_reducible exact Below.refl _ _ | with_reducible exact hbw | (with_reducible refine Below.setCell ?_ ?_ _; rotate_left; · first | exact Nat.le_refl _ | omega | (simp; done) | (simp; omega)) | (with_reducible refine Below.alloc ?_ ?_ _; rotate_left; · first | exact Nat.le_refl _ | omega | (simp; done) | (simp; omega)) | with_reducible refine below_drewN ?_ _ | with_reducible refine Below.drew ?_))) (hb.mono (by simp <;> omega)))
  have hz : w.heap.size + 2 ≤ w1.heap.size := by have := hb.size; simp at this; omega
  have z0 : w1.cell? ⟨w.heap.size, 0, none⟩ = some (.string x.name) := cellB hb (by simp [go_sem])
  have z1 : w1.cell? ⟨w.heap.size, 1, none⟩ = some (.slice a x.tones.length ca) := cellB hb (by simp [go_sem])
  have r0 : w1.cell? ⟨w.heap.size + 1, 0, none⟩ = some (.string ⟨#[]⟩) := cellB hb (by simp [go_sem])
  have r1 : w1.cell? ⟨w.heap.size + 1, 1, none⟩ = some (.slice none 0 0) := cellB hb (by simp [go_sem])
  have f0 : w1.frozen? ⟨w.heap.size + 1, 0, none⟩ = false := frozenL hb (by simp) (by simp [go_sem])
  have f1 : w1.frozen? ⟨w.heap.size + 1, 1, none⟩ = false := frozenL hb (by simp) (by simp [go_sem])
  have hz0 : w.heap.size < w1.heap.size := by omega
  have hz2 : w.heap.size + 1 < w1.heap.size := by omega
  clear hb
  obtain ⟨w2, rfl⟩ : ∃ w2 : World, w2 = w1 := ⟨_, rfl⟩
  have HB2 := Lib.hid HB.out
  go_wp2_with fail
  go_loopw [23, 9] (fun i _ wr => ∃ (k n : Nat) (a' : Option Addr) (c' : Nat), k ≤ x.tones.length ∧ i = .int .i64 (k : Int) ∧ n = (thinL x.tones r k).length ∧ wr.ownsRow (w2.heap.size + 1) 91 3 (.slice a' n c') n ((thinL x.tones r k).flatMap Ton.cells) ∧ Below w2.heap.size w2 wr ∧ w2.heap.size + 1 ≤ wr.heap.size ∧ wr.cell? ⟨w2.heap.size, 0, none⟩ = some (.string x.name) ∧ wr.cell? ⟨w2.heap.size, 1, none⟩ = some (.slice a' n c') ∧ wr.frozen? ⟨w2.heap.size, 1, none⟩ = false) (fun i _ _ => x.tones.length - (intOf i).toNat)
  case atStart => exact ⟨0, 0, none, 0, Nat.zero_le _, by go_num, rfl, by simpa [thinL] using owns_nil _ _ _ _, by (repeat (first | with_reducible exact Below.refl _ _ | with_reducible exact hbw | (with_reducible refine Below.setCell ?_ ?_ _; rotate_left; · first | exact Nat.le_refl _ | omega | (simp; done) | (simp; omega)) | (with_reducible refine Below.alloc ?_ ?_ _; rotate_left; · first | exact Nat.le_refl _ | omega | (simp; done) | (simp; omega)) | with_reducible refine below_drewN ?_ _ | with_reducible refine Below.drew ?_)), by simp, by simp [go_sem], by simp [go_sem], by simp [go_sem]⟩
  case round =>
    obtain ⟨k, n, a', c', hk, rfl, hnn, ho, hb, hzr, d0, d1, df⟩ := hrel
    have HO := Lib.hid ho; have HN := Lib.hid hnn; have HBr := Lib.hid hb; clear ho
    have fl := thin_len x.tones r k
    rw [← hnn] at fl
    clear hnn
    by_cases hlt : k < x.tones.length
    · obtain ⟨b1, o1, rfl, hB1, t0, t1, t2⟩ := ((hlv.mono HB2.out).mono hb).at hlt
      have l1 : b1 < wr.heap.size + 1 := by omega
      have l2 : w2.heap.size < wr.heap.size := by omega
      have l3 : w2.heap.size < wr.heap.size + 1 := by omega
      have hto : Tons wr (.slice a' n c') (thinL x.tones r k) := Tons.of_owns (xs := thinL x.tones r k) (by rw [← HN.out]; exact HO.out)
      have HTO := Lib.hid hto
      clear hb hto
      cases g : (thinL x.tones r k).any (soon x.tones[k] r)
      · have F := Lib.hid (thin_no hlt g)
        have G := Lib.hid g; clear g
        go_wp2_with fail
        refine (tooSoon_any _ (thinL x.tones r k) x.tones[k] r _ (HTO.out.mono (by (repeat (first | with_reducible exact Below.refl _ _ | with_reducible exact hbw | (with_reducible refine Below.setCell ?_ ?_ _; rotate_left; · first | exact Nat.le_refl _ | omega | (simp; done) | (simp; omega)) | (with_reducible refine Below.alloc ?_ ?_ _; rotate_left; · first | exact Nat.le_refl _ | omega | (simp; done) | (simp; omega)) | with_reducible refine below_drewN ?_ _ | with_reducible refine Below.drew ?_)))) (tun_bd AV.out.1 _ (List.getElem_mem hlt)) (thin_bd AV.out.1 r k)).mono ?_
        rw [G.out]
        rintro e w3 ⟨rfl, hb3⟩
        have hst3 : Below wr.heap.size wr w3 := Below.trans (by (repeat (first | with_reducible exact Below.refl _ _ | with_reducible exact hbw | (with_reducible refine Below.setCell ?_ ?_ _; rotate_left; · first | exact Nat.le_refl _ | omega | (simp; done) | (simp; omega)) | (with_reducible refine Below.alloc ?_ ?_ _; rotate_left; · first | exact Nat.le_refl _ | omega | (simp; done) | (simp; omega)) | with_reducible refine below_drewN ?_ _ | with_reducible refine Below.drew ?_))) (hb3.mono (by simp <;> omega))
        have t0 : w3.cell? ⟨wr.heap.size, 0, none⟩ = some (.int .i64 x.tones[k].note) := cellB hb3 (by simp [go_sem])
        have t1 : w3.cell? ⟨wr.heap.size, 1, none⟩ = some (.int .i64 x.tones[k].start) := cellB hb3 (by simp [go_sem])
        have t2 : w3.cell? ⟨wr.heap.size, 2, none⟩ = some (.int .i64 x.tones[k].len) := cellB hb3 (by simp [go_sem])
        have hz3 : wr.heap.size + 1 ≤ w3.heap.size := by have := hb3.size; simp at this; omega
        have d0 := cellB hst3 d0
        have d1 := cellB hst3 d1
        have df := frozenL hst3 (by simp; omega) df
        have HO3 := Lib.hid (owns_mono HO.out hst3); have HB3 := Lib.hid (HBr.out.trans (hst3.mono (by omega)))
        have l4 : w2.heap.size < w3.heap.size := by omega
        have l6 : w2.heap.size < w3.heap.size + 1 := by omega
        have l7 : wr.heap.size < w3.heap.size := by omega
        have l8 : wr.heap.size < w3.heap.size + 1 := by omega
        clear hb3 hst3
        go_wp2_with (at_builtin; refine append_one_at rfl _ _ 33 rfl (w2.heap.size + 1) 91 _ 3 24 Try.underlying33 info_Tone rfl (by decide) _ n _ rfl HO3.out [.int .i64 x.tones[k].note, .int .i64 x.tones[k].start, .int .i64 x.tones[k].len] rfl (by intro u hu; simp at hu; rcases hu with rfl | rfl | rfl <;> rfl) w3.heap.size rfl rfl (by omega) (by decide) (by omega) ?_)
        intro a5 cap5 w5 ho5 hg5 hb5 hat5
        have hst : Below (w2.heap.size + 1) w3 w5 := hb5
        clear hg5 hat5 hb5
        have HBr := HB3
        have hz5 := hst.size
        have d0' := cellL hst (by simp) d0
        have d1' := cellL hst (by simp) d1
        have df' := frozenL hst (by simp) df
        have ht : Touch w2.heap.size (w2.heap.size + 1) w5 (w5.setCell ⟨w2.heap.size, 1, none⟩ (.slice a5 (n + 1) cap5)) := (Touch.refl _ _ w5).setCell (p := ⟨w2.heap.size, 1, none⟩) (by simp) _
        have hlt5 : w2.heap.size < w5.heap.size := by omega
        have hbw5 : Below w2.heap.size w2 (w5.setCell ⟨w2.heap.size, 1, none⟩ (.slice a5 (n + 1) cap5)) := ht.below (HBr.out.trans (hst.mono (by omega))) (Nat.le_refl _) (by omega)
        have e0' : (w5.setCell ⟨w2.heap.size, 1, none⟩ (.slice a5 (n + 1) cap5)).cell? ⟨w2.heap.size, 0, none⟩ = some (.string x.name) := by simp [go_sem, d0', hlt5, df']
        have e1' : (w5.setCell ⟨w2.heap.size, 1, none⟩ (.slice a5 (n + 1) cap5)).cell? ⟨w2.heap.size, 1, none⟩ = some (.slice a5 (n + 1) cap5) := by simp [go_sem, d1', hlt5, df']
        have ef' : (w5.setCell ⟨w2.heap.size, 1, none⟩ (.slice a5 (n + 1) cap5)).frozen? ⟨w2.heap.size, 1, none⟩ = false := by simp [go_sem, hlt5, df']
        have ho6 := ownsRow_setCell_below (a := ⟨w2.heap.size, 1, none⟩) ho5 (by simp) (.slice a5 (n + 1) cap5)
        have EW := Lib.hid e0'; have EW1 := Lib.hid e1'; have EF := Lib.hid ef'; have BW := Lib.hid hbw5; have HO6 := Lib.hid ho6
        clear e0' e1' ef' hbw5 ho6 ht hst ho5 d0 d1 df
        go_wp2
        go_roundw
        case rel => exact ⟨k + 1, n + 1, a5, cap5, by omega, by go_num, by rw [F.out, HN.out]; simp, by rw [F.out, thin_cells]; exact HO6.out, BW.out, by simp [World.setCell]; omega, EW.out, EW1.out, EF.out⟩
        case measure => simp [intOf] <;> omega
      · have F := Lib.hid (thin_yes hlt g)
        have G := Lib.hid g; clear g
        go_wp2_with fail
        refine (tooSoon_any _ (thinL x.tones r k) x.tones[k] r _ (HTO.out.mono (by (repeat (first | with_reducible exact Below.refl _ _ | with_reducible exact hbw | (with_reducible refine Below.setCell ?_ ?_ _; rotate_left; · first | exact Nat.le_refl _ | omega | (simp; done) | (simp; omega)) | (with_reducible refine Below.alloc ?_ ?_ _; rotate_left; · first | exact Nat.le_refl _ | omega | (simp; done) | (simp; omega)) | with_reducible refine below_drewN ?_ _ | with_reducible refine Below.drew ?_)))) (tun_bd AV.out.1 _ (List.getElem_mem hlt)) (thin_bd AV.out.1 r k)).mono ?_
        rw [G.out]
        rintro e w3 ⟨rfl, hb3⟩
        have hst3 : Below wr.heap.size wr w3 := Below.trans (by (repeat (first | with_reducible exact Below.refl _ _ | with_reducible exact hbw | (with_reducible refine Below.setCell ?_ ?_ _; rotate_left; · first | exact Nat.le_refl _ | omega | (simp; done) | (simp; omega)) | (with_reducible refine Below.alloc ?_ ?_ _; rotate_left; · first | exact Nat.le_refl _ | omega | (simp; done) | (simp; omega)) | with_reducible refine below_drewN ?_ _ | with_reducible refine Below.drew ?_))) (hb3.mono (by simp <;> omega))
        have t0 : w3.cell? ⟨wr.heap.size, 0, none⟩ = some (.int .i64 x.tones[k].note) := cellB hb3 (by simp [go_sem])
        have t1 : w3.cell? ⟨wr.heap.size, 1, none⟩ = some (.int .i64 x.tones[k].start) := cellB hb3 (by simp [go_sem])
        have t2 : w3.cell? ⟨wr.heap.size, 2, none⟩ = some (.int .i64 x.tones[k].len) := cellB hb3 (by simp [go_sem])
        have hz3 : wr.heap.size + 1 ≤ w3.heap.size := by have := hb3.size; simp at this; omega
        have d0 := cellB hst3 d0
        have d1 := cellB hst3 d1
        have df := frozenL hst3 (by simp; omega) df
        have HO3 := Lib.hid (owns_mono HO.out hst3); have HB3 := Lib.hid (HBr.out.trans (hst3.mono (by omega)))
        have l4 : w2.heap.size < w3.heap.size := by omega
        have l6 : w2.heap.size < w3.heap.size + 1 := by omega
        have l7 : wr.heap.size < w3.heap.size := by omega
        have l8 : wr.heap.size < w3.heap.size + 1 := by omega
        clear hb3 hst3
        go_wp2
        go_roundw
        case rel => exact ⟨k + 1, n, a', c', by omega, by go_num, by rw [F.out]; exact HN.out, by rw [F.out]; exact HO3.out, HB3.out, by omega, d0, d1, df⟩
        case measure => simp [intOf] <;> omega
    · obtain rfl : k = x.tones.length := by omega
      clear hb
      have HO2 := Lib.hid HO.out
      have r0 := cellB HBr.out r0
      have r1 := cellB HBr.out r1
      have f0 := frozenL HBr.out (by simp; omega) f0
      have f1 := frozenL HBr.out (by simp; omega) f1
      have n1 : ¬ w.heap.size + 1 = w2.heap.size := by omega
      have l5 : w.heap.size + 1 < wr.heap.size := by omega
      have hzr := HBr.out.size
      have HB5 := Lib.hid (HB2.out.trans (HBr.out.mono HB2.out.size))
      clear df
      go_wp2
      refine bodyPost_ret (v := .tuple #[.agg #[.string x.name, .slice a' n c'], .int .i64 0]) (by simp [results, Try.results41, go_sem, l5, r0, r1]) rfl ⟨_, by rw [E2.out], ?_, ?_⟩
      · rw [E1.out]
        refine ⟨.slice a' n c', rfl, ?_⟩
        have ho3 : OwnRow (w2.heap.size + 1) wr.heap.size wr 91 3 (.slice a' n c') (thinL x.tones r x.tones.length).length ((thinL x.tones r x.tones.length).flatMap Ton.cells) := OwnRow.mk' (by rw [← HN.out]; exact HO2.out)
        refine (ho3.touch (B' := w.heap.size + 1) (E' := w.heap.size + 2) ?_ (Or.inr (by omega))).wide (by omega) (by simp)
        have htc := Touch.refl (w.heap.size + 1) (w.heap.size + 2) wr
        (repeat (first | with_reducible exact Touch.refl _ _ _ | with_reducible exact htc | (with_reducible refine Touch.setCell ?_ ?_ _; rotate_left; · (simp only; omega)) | (with_reducible refine Touch.setNew ?_ ?_ _; rotate_left; · (first | (simp only; omega) | (simp; done) | (simp; omega))) | with_reducible refine Touch.alloc ?_ _ | with_reducible refine Touch.drewN ?_ _ | with_reducible refine Touch.drew ?_))
      · have hbw := HB5.out
        (repeat (first | with_reducible exact Below.refl _ _ | with_reducible exact hbw | (with_reducible refine Below.setCell ?_ ?_ _; rotate_left; · first | exact Nat.le_refl _ | omega | (simp; done) | (simp; omega)) | (with_reducible refine Below.alloc ?_ ?_ _; rotate_left; · first | exact Nat.le_refl _ | omega | (simp; done) | (simp; omega)) | with_reducible refine below_drewN ?_ _ | with_reducible refine Below.drew ?_))

end Go.Proofs.Ytgelilelmmocgaa
