/- Contract of spec.AppendTune. -/
import Derived.Test.YtfnbjegbaobpnaaAppI
import Derived.Test.YtfnbjegbaobpnaaRevS
import Derived.Test.YtfnbjegbaobpnaaMerS
set_option linter.unusedSimpArgs false
set_option linter.unnecessarySimpa false
set_option linter.unusedVariables false
set_option maxRecDepth 100000
namespace Go.Proofs.Ytfnbjegbaobpnaa
open Go.RowKit

theorem grown_cell {a b : World} {row : Option Nat} (h : a.grownBy b row) {p : Addr} {v : Value} (hp : p.block < a.heap.size) (hr : some p.block ≠ row) (hc : a.cell? p = some v) : b.cell? p = some v := by
  have := h.block p.block hp hr
  unfold World.cell? at *
  rw [this]; exact hc
theorem grown_frozen {a b : World} {row : Option Nat} (h : a.grownBy b row) {p : Addr} {v : Bool} (hp : p.block < a.heap.size) (hr : some p.block ≠ row) (hc : a.frozen? p = v) : b.frozen? p = v := by
  have := h.block p.block hp hr
  unfold World.frozen? at *
  rw [this]; exact hc
theorem owns_setCell_ne {w : World} {base : Nat} {e : TypeId} {size n : Nat} {v : Value} {cs : List Value} (h : w.ownsRow base e size v n cs) {b o : Nat} (hb : ∀ q, v.ownBlock = some q → q ≠ b) (u : Value) : (w.setCell ⟨b, o, none⟩ u).ownsRow base e size v n cs := by
  refine ⟨h.1, ?_⟩
  rcases h.2 with h2 | ⟨g, cap, cur, rfl, x1, x2, x3⟩
  · exact .inl h2
  · have hg : g ≠ b := hb g rfl
    exact .inr ⟨g, cap, cur, rfl, x1, (Below.heap_setCell _ _ _ _ (by simpa using hg)).trans x2, x3⟩
theorem ap_len (x y : TunD) (g : Int) : (apV x y g).tones.length ≤ 1048576 := by
  unfold apV; split
  · split
    · split
      · exact jo_len _ _ _
      · simp
    · simp
  · simp
theorem endOf_ge {xs : List Ton} : ∀ t ∈ xs, t.start + t.len ≤ endOf xs := by
  intro t ht
  obtain ⟨k, hk, rfl⟩ := List.getElem_of_mem ht
  have : ∀ m, k < m → m ≤ xs.length → xs[k].start + xs[k].len ≤ endOf (xs.take m) := by
    intro m
    induction m with
    | zero => intro h; omega
    | succ m ih =>
      intro h1 h2
      rw [endOf_step xs (by omega)]
      rcases Nat.lt_or_eq_of_le (Nat.le_of_lt_succ h1) with h3 | h3
      · have := ih h3 (by omega); omega
      · subst h3; omega
  have h1 := this xs.length hk (Nat.le_refl _)
  rwa [List.take_length] at h1
theorem jo_srt {x y : TunD} {b : Int} (hx : validTunB x = true) (hy : validTunB y = true) (hb : endOf x.tones ≤ b) : Srt (joL x y b) := by
  unfold joL
  have h1 := tones_stc (validTunB_iff.1 hx).tones
  have h2 := tones_stc (validTunB_iff.1 hy).tones
  refine Srt.app (h1.imp fun h => leT_of h) ?_ ?_
  · unfold Srt
    rw [List.pairwise_map]
    exact h2.imp fun h => by unfold leT before shF at *; simp only; omega
  · intro u hu t ht
    obtain ⟨t0, ht0, rfl⟩ := List.mem_map.1 ht
    have e1 := endOf_ge u hu
    obtain ⟨k, hk, rfl⟩ := List.getElem_of_mem ht0
    obtain ⟨j, hj, rfl⟩ := List.getElem_of_mem hu
    have f1 := (tun_tone hx hj).fits
    have f2 := (tun_tone hy hk).fits
    unfold leT before shF
    simp only
    omega

set_option maxHeartbeats 2000000 in
theorem specAppendTune_any (v : Value) (x : TunD) (v2 : Value) (y : TunD) (g : Int) (w : World) (h : RdTun w v x) (ok : x.ok) (hs : x.tones.length ≤ 1048576) (h2 : RdTun w v2 y) (ok2 : y.ok) (hs2 : y.tones.length ≤ 1048576) (_ : I64 g) :
    Calls Try.prog 39 #[v, v2, .int .i64 g] w fun e w' => ∃ v', e = .returned (.tuple #[v', .int .i64 (apC x y g)]) ∧ OwnTun w.heap.size w'.heap.size w' v' (apV x y g) ∧ Below w.heap.size w w' := by
  obtain ⟨lv, rfl, hlv⟩ := h
  obtain ⟨lw, rfl, hlw⟩ := h2
  obtain ⟨a, ca, rfl, hca, hcm, _⟩ := id hlv
  obtain ⟨c, cc, rfl, hcc, hcm2, _⟩ := id hlw
  have hn := ok.1
  have hn2 := ok2.1
  by_cases gx : validTunB x = true
  rotate_left
  · obtain ⟨e1, e2⟩ := ap_x (y := y) (g := g) gx
    have E1 := Lib.hid e1; have E2 := Lib.hid e2; have G := Lib.hid (show validTunB x = false by simpa using gx); clear e1 e2 gx
    go_enter Try.func39, Try.ntmps39
    go_wp2_with fail
    refine (l25Ok_any _ (.slice a x.tones.length ca) x _ ⟨by simp [go_sem], by simp [go_sem], hlv.mono (by (repeat (first | with_reducible exact Below.refl _ _ | with_reducible exact hbw | (with_reducible refine Below.setCell ?_ ?_ _; rotate_left; · first | exact Nat.le_refl _ | omega | (simp; done) | (simp; omega)) | (with_reducible refine Below.alloc ?_ ?_ _; rotate_left; · first | exact Nat.le_refl _ | omega | (simp; done) | (simp; omega)) | with_reducible refine below_drewN ?_ _ | with_reducible refine Below.drew ?_))), hn⟩).mono ?_
    rintro e w1 ⟨rfl, hb⟩
    have HB := Lib.hid (show Below w.heap.size w w1 from Below.trans (by (repeat (first | with_reducible exact Below.refl _ _ | with_reducible exact hbw | (with_reducible refine Below.setCell ?_ ?_ _; rotate_left; · first | exact Nat.le_refl _ | omega | (simp; done) | (simp; omega)) | (with_reducible refine Below.alloc ?_ ?_ _; rotate_left; · first | exact Nat.le_refl _ | omega | (simp; done) | (simp; omega)) | with_reducible refine below_drewN ?_ _ | with_reducible refine Below.drew ?_))) (hb.mono (by simp <;> omega)))
    have hz : w.heap.size + 3 ≤ w1.heap.size := by have := hb.size; simp at this; omega
    have z0 : w1.cell? ⟨w.heap.size, 0, none⟩ = some (.string x.name) := cellB hb (by simp [go_sem])
    have z1 : w1.cell? ⟨w.heap.size, 1, none⟩ = some (.slice a x.tones.length ca) := cellB hb (by simp [go_sem])
    have u0 : w1.cell? ⟨w.heap.size + 1, 0, none⟩ = some (.string y.name) := cellB hb (by simp [go_sem])
    have u1 : w1.cell? ⟨w.heap.size + 1, 1, none⟩ = some (.slice c y.tones.length cc) := cellB hb (by simp [go_sem])
    have r0 : w1.cell? ⟨w.heap.size + 2, 0, none⟩ = some (.string ⟨#[]⟩) := cellB hb (by simp [go_sem])
    have r1 : w1.cell? ⟨w.heap.size + 2, 1, none⟩ = some (.slice none 0 0) := cellB hb (by simp [go_sem])
    have f0 : w1.frozen? ⟨w.heap.size + 2, 0, none⟩ = false := frozenL hb (by simp) (by simp [go_sem])
    have f1 : w1.frozen? ⟨w.heap.size + 2, 1, none⟩ = false := frozenL hb (by simp) (by simp [go_sem])
    have hz0 : w.heap.size < w1.heap.size := by omega
    have hz1 : w.heap.size + 1 < w1.heap.size := by omega
    have hz2 : w.heap.size + 2 < w1.heap.size := by omega
    clear hb
    rw [G.out]
    go_wp2
    refine bodyPost_ret (v := .tuple #[.agg #[.string ⟨#[]⟩, .slice none 0 0], .int .i64 1]) (by simp [results, Try.results39, go_sem, hz2, r0, r1]) rfl ⟨_, by rw [E2.out], by rw [E1.out]; exact ownT_zero _ _ _, ?_⟩
    have hbw := HB.out
    (repeat (first | with_reducible exact Below.refl _ _ | with_reducible exact hbw | (with_reducible refine Below.setCell ?_ ?_ _; rotate_left; · first | exact Nat.le_refl _ | omega | (simp; done) | (simp; omega)) | (with_reducible refine Below.alloc ?_ ?_ _; rotate_left; · first | exact Nat.le_refl _ | omega | (simp; done) | (simp; omega)) | with_reducible refine below_drewN ?_ _ | with_reducible refine Below.drew ?_))
  by_cases gy : validTunB y = true
  rotate_left
  · obtain ⟨e1, e2⟩ := ap_y (g := g) gx gy
    have E1 := Lib.hid e1; have E2 := Lib.hid e2; have GX := Lib.hid gx; have GY := Lib.hid (show validTunB y = false by simpa using gy); clear e1 e2 gx gy
    go_enter Try.func39, Try.ntmps39
    go_wp2_with fail
    refine (l25Ok_any _ (.slice a x.tones.length ca) x _ ⟨by simp [go_sem], by simp [go_sem], hlv.mono (by (repeat (first | with_reducible exact Below.refl _ _ | with_reducible exact hbw | (with_reducible refine Below.setCell ?_ ?_ _; rotate_left; · first | exact Nat.le_refl _ | omega | (simp; done) | (simp; omega)) | (with_reducible refine Below.alloc ?_ ?_ _; rotate_left; · first | exact Nat.le_refl _ | omega | (simp; done) | (simp; omega)) | with_reducible refine below_drewN ?_ _ | with_reducible refine Below.drew ?_))), hn⟩).mono ?_
    rintro e w1 ⟨rfl, hb⟩
    have HB := Lib.hid (show Below w.heap.size w w1 from Below.trans (by (repeat (first | with_reducible exact Below.refl _ _ | with_reducible exact hbw | (with_reducible refine Below.setCell ?_ ?_ _; rotate_left; · first | exact Nat.le_refl _ | omega | (simp; done) | (simp; omega)) | (with_reducible refine Below.alloc ?_ ?_ _; rotate_left; · first | exact Nat.le_refl _ | omega | (simp; done) | (simp; omega)) | with_reducible refine below_drewN ?_ _ | with_reducible refine Below.drew ?_))) (hb.mono (by simp <;> omega)))
    have hz : w.heap.size + 3 ≤ w1.heap.size := by have := hb.size; simp at this; omega
    have z0 : w1.cell? ⟨w.heap.size, 0, none⟩ = some (.string x.name) := cellB hb (by simp [go_sem])
    have z1 : w1.cell? ⟨w.heap.size, 1, none⟩ = some (.slice a x.tones.length ca) := cellB hb (by simp [go_sem])
    have u0 : w1.cell? ⟨w.heap.size + 1, 0, none⟩ = some (.string y.name) := cellB hb (by simp [go_sem])
    have u1 : w1.cell? ⟨w.heap.size + 1, 1, none⟩ = some (.slice c y.tones.length cc) := cellB hb (by simp [go_sem])
    have r0 : w1.cell? ⟨w.heap.size + 2, 0, none⟩ = some (.string ⟨#[]⟩) := cellB hb (by simp [go_sem])
    have r1 : w1.cell? ⟨w.heap.size + 2, 1, none⟩ = some (.slice none 0 0) := cellB hb (by simp [go_sem])
    have f0 : w1.frozen? ⟨w.heap.size + 2, 0, none⟩ = false := frozenL hb (by simp) (by simp [go_sem])
    have f1 : w1.frozen? ⟨w.heap.size + 2, 1, none⟩ = false := frozenL hb (by simp) (by simp [go_sem])
    have hz0 : w.heap.size < w1.heap.size := by omega
    have hz1 : w.heap.size + 1 < w1.heap.size := by omega
    have hz2 : w.heap.size + 2 < w1.heap.size := by omega
    clear hb
    rw [GX.out]
    go_wp2_with fail
    refine (l25Ok_any _ (.slice c y.tones.length cc) y _ ⟨u0, u1, hlw.mono (HB.out), hn2⟩).mono ?_
    rintro e w2 ⟨rfl, hb⟩
    have hzb := hb.size
    have z0 := cellB hb z0
    have z1 := cellB hb z1
    have u0 := cellB hb u0
    have u1 := cellB hb u1
    have r0 := cellB hb r0
    have r1 := cellB hb r1
    have f0 := frozenL hb (by simp; omega) f0
    have f1 := frozenL hb (by simp; omega) f1
    have HB := Lib.hid (HB.out.trans (hb.mono HB.out.size))
    have hz : w.heap.size + 3 ≤ w2.heap.size := by omega
    have hz0 : w.heap.size < w2.heap.size := by omega
    have hz1 : w.heap.size + 1 < w2.heap.size := by omega
    have hz2 : w.heap.size + 2 < w2.heap.size := by omega
    clear hb hzb
    rw [GY.out]
    go_wp2
    refine bodyPost_ret (v := .tuple #[.agg #[.string ⟨#[]⟩, .slice none 0 0], .int .i64 1]) (by simp [results, Try.results39, go_sem, hz2, r0, r1]) rfl ⟨_, by rw [E2.out], by rw [E1.out]; exact ownT_zero _ _ _, ?_⟩
    have hbw := HB.out
    (repeat (first | with_reducible exact Below.refl _ _ | with_reducible exact hbw | (with_reducible refine Below.setCell ?_ ?_ _; rotate_left; · first | exact Nat.le_refl _ | omega | (simp; done) | (simp; omega)) | (with_reducible refine Below.alloc ?_ ?_ _; rotate_left; · first | exact Nat.le_refl _ | omega | (simp; done) | (simp; omega)) | with_reducible refine below_drewN ?_ _ | with_reducible refine Below.drew ?_))
  by_cases gg : gapIn g
  rotate_left
  · obtain ⟨e1, e2⟩ := ap_rng gx gy gg
    have E1 := Lib.hid e1; have E2 := Lib.hid e2; have GX := Lib.hid gx; have GY := Lib.hid gy; have GG := Lib.hid gg; clear e1 e2 gx gy gg
    go_enter Try.func39, Try.ntmps39
    go_wp2_with fail
    refine (l25Ok_any _ (.slice a x.tones.length ca) x _ ⟨by simp [go_sem], by simp [go_sem], hlv.mono (by (repeat (first | with_reducible exact Below.refl _ _ | with_reducible exact hbw | (with_reducible refine Below.setCell ?_ ?_ _; rotate_left; · first | exact Nat.le_refl _ | omega | (simp; done) | (simp; omega)) | (with_reducible refine Below.alloc ?_ ?_ _; rotate_left; · first | exact Nat.le_refl _ | omega | (simp; done) | (simp; omega)) | with_reducible refine below_drewN ?_ _ | with_reducible refine Below.drew ?_))), hn⟩).mono ?_
    rintro e w1 ⟨rfl, hb⟩
    have HB := Lib.hid (show Below w.heap.size w w1 from Below.trans (by (repeat (first | with_reducible exact Below.refl _ _ | with_reducible exact hbw | (with_reducible refine Below.setCell ?_ ?_ _; rotate_left; · first | exact Nat.le_refl _ | omega | (simp; done) | (simp; omega)) | (with_reducible refine Below.alloc ?_ ?_ _; rotate_left; · first | exact Nat.le_refl _ | omega | (simp; done) | (simp; omega)) | with_reducible refine below_drewN ?_ _ | with_reducible refine Below.drew ?_))) (hb.mono (by simp <;> omega)))
    have hz : w.heap.size + 3 ≤ w1.heap.size := by have := hb.size; simp at this; omega
    have z0 : w1.cell? ⟨w.heap.size, 0, none⟩ = some (.string x.name) := cellB hb (by simp [go_sem])
    have z1 : w1.cell? ⟨w.heap.size, 1, none⟩ = some (.slice a x.tones.length ca) := cellB hb (by simp [go_sem])
    have u0 : w1.cell? ⟨w.heap.size + 1, 0, none⟩ = some (.string y.name) := cellB hb (by simp [go_sem])
    have u1 : w1.cell? ⟨w.heap.size + 1, 1, none⟩ = some (.slice c y.tones.length cc) := cellB hb (by simp [go_sem])
    have r0 : w1.cell? ⟨w.heap.size + 2, 0, none⟩ = some (.string ⟨#[]⟩) := cellB hb (by simp [go_sem])
    have r1 : w1.cell? ⟨w.heap.size + 2, 1, none⟩ = some (.slice none 0 0) := cellB hb (by simp [go_sem])
    have f0 : w1.frozen? ⟨w.heap.size + 2, 0, none⟩ = false := frozenL hb (by simp) (by simp [go_sem])
    have f1 : w1.frozen? ⟨w.heap.size + 2, 1, none⟩ = false := frozenL hb (by simp) (by simp [go_sem])
    have hz0 : w.heap.size < w1.heap.size := by omega
    have hz1 : w.heap.size + 1 < w1.heap.size := by omega
    have hz2 : w.heap.size + 2 < w1.heap.size := by omega
    clear hb
    rw [GX.out]
    go_wp2_with fail
    refine (l25Ok_any _ (.slice c y.tones.length cc) y _ ⟨u0, u1, hlw.mono (HB.out), hn2⟩).mono ?_
    rintro e w2 ⟨rfl, hb⟩
    have hzb := hb.size
    have z0 := cellB hb z0
    have z1 := cellB hb z1
    have u0 := cellB hb u0
    have u1 := cellB hb u1
    have r0 := cellB hb r0
    have r1 := cellB hb r1
    have f0 := frozenL hb (by simp; omega) f0
    have f1 := frozenL hb (by simp; omega) f1
    have HB := Lib.hid (HB.out.trans (hb.mono HB.out.size))
    have hz : w.heap.size + 3 ≤ w2.heap.size := by omega
    have hz0 : w.heap.size < w2.heap.size := by omega
    have hz1 : w.heap.size + 1 < w2.heap.size := by omega
    have hz2 : w.heap.size + 2 < w2.heap.size := by omega
    clear hb hzb
    rw [GY.out]
    go_wp2_with fail
    refine (l00In_any false _ _ _ _ (noB GG.out)).mono ?_
    rintro e w3 ⟨rfl, rfl⟩
    go_wp2
    refine bodyPost_ret (v := .tuple #[.agg #[.string ⟨#[]⟩, .slice none 0 0], .int .i64 2]) (by simp [results, Try.results39, go_sem, hz2, r0, r1]) rfl ⟨_, by rw [E2.out], by rw [E1.out]; exact ownT_zero _ _ _, ?_⟩
    have hbw := HB.out
    (repeat (first | with_reducible exact Below.refl _ _ | with_reducible exact hbw | (with_reducible refine Below.setCell ?_ ?_ _; rotate_left; · first | exact Nat.le_refl _ | omega | (simp; done) | (simp; omega)) | (with_reducible refine Below.alloc ?_ ?_ _; rotate_left; · first | exact Nat.le_refl _ | omega | (simp; done) | (simp; omega)) | with_reducible refine below_drewN ?_ _ | with_reducible refine Below.drew ?_))
  obtain ⟨e1, e2⟩ := ap_yes gx gy gg
  have E1 := Lib.hid e1; have E2 := Lib.hid e2; have GX := Lib.hid gx; have GY := Lib.hid gy; have GG := Lib.hid gg; have TX := Lib.hid (validTunB_iff.1 gx).tones; clear e1 e2 gx gy gg
  have lx := tun_len GX.out
  have ly := tun_len GY.out
  have s1 : IntKind.i64.wrap ((x.tones.length : Int) + y.tones.length) = (x.tones.length : Int) + y.tones.length := IntWalk.i64_in _ (by omega)
  obtain ⟨en, hen⟩ : ∃ en, en = endOf x.tones := ⟨_, rfl⟩
  have hen2 : 0 ≤ en ∧ en ≤ 20000 := by rw [hen]; exact endOf_bd TX.out
  obtain ⟨en0, en1⟩ := hen2
  have hg2 : 0 ≤ en + g ∧ en + g ≤ 100000 := by have := GG.out; unfold gapIn at this; omega
  have q1 : IntKind.i64.wrap (en + g) = en + g := IntWalk.i64_in _ (by omega)
  have EN := Lib.hid hen
  have HG := Lib.hid hg2
  have hsr : Srt (joL x y (en + g)) := jo_srt GX.out GY.out (by rw [hen]; have := GG.out; unfold gapIn at this; omega)
  have SR := Lib.hid hsr
  rw [← hen] at E1 E2
  clear hen hg2 hsr
  by_cases gf : joFits x y
  rotate_left
  · obtain ⟨e1, e2⟩ := jo_no (b := en + g) gf
    have d0 : decide (128 < (x.tones.length : Int) + y.tones.length) = true := by unfold joFits at gf; simp; omega
    have E1 := Lib.hid (E1.out.trans e1); have E2 := Lib.hid (E2.out.trans e2); clear e1 e2 gf
    go_enter Try.func39, Try.ntmps39
    go_wp2_with fail
    refine (l25Ok_any _ (.slice a x.tones.length ca) x _ ⟨by simp [go_sem], by simp [go_sem], hlv.mono (by (repeat (first | with_reducible exact Below.refl _ _ | with_reducible exact hbw | (with_reducible refine Below.setCell ?_ ?_ _; rotate_left; · first | exact Nat.le_refl _ | omega | (simp; done) | (simp; omega)) | (with_reducible refine Below.alloc ?_ ?_ _; rotate_left; · first | exact Nat.le_refl _ | omega | (simp; done) | (simp; omega)) | with_reducible refine below_drewN ?_ _ | with_reducible refine Below.drew ?_))), hn⟩).mono ?_
    rintro e w1 ⟨rfl, hb⟩
    have HB := Lib.hid (show Below w.heap.size w w1 from Below.trans (by (repeat (first | with_reducible exact Below.refl _ _ | with_reducible exact hbw | (with_reducible refine Below.setCell ?_ ?_ _; rotate_left; · first | exact Nat.le_refl _ | omega | (simp; done) | (simp; omega)) | (with_reducible refine Below.alloc ?_ ?_ _; rotate_left; · first | exact Nat.le_refl _ | omega | (simp; done) | (simp; omega)) | with_reducible refine below_drewN ?_ _ | with_reducible refine Below.drew ?_))) (hb.mono (by simp <;> omega)))
    have hz : w.heap.size + 3 ≤ w1.heap.size := by have := hb.size; simp at this; omega
    have z0 : w1.cell? ⟨w.heap.size, 0, none⟩ = some (.string x.name) := cellB hb (by simp [go_sem])
    have z1 : w1.cell? ⟨w.heap.size, 1, none⟩ = some (.slice a x.tones.length ca) := cellB hb (by simp [go_sem])
    have u0 : w1.cell? ⟨w.heap.size + 1, 0, none⟩ = some (.string y.name) := cellB hb (by simp [go_sem])
    have u1 : w1.cell? ⟨w.heap.size + 1, 1, none⟩ = some (.slice c y.tones.length cc) := cellB hb (by simp [go_sem])
    have r0 : w1.cell? ⟨w.heap.size + 2, 0, none⟩ = some (.string ⟨#[]⟩) := cellB hb (by simp [go_sem])
    have r1 : w1.cell? ⟨w.heap.size + 2, 1, none⟩ = some (.slice none 0 0) := cellB hb (by simp [go_sem])
    have f0 : w1.frozen? ⟨w.heap.size + 2, 0, none⟩ = false := frozenL hb (by simp) (by simp [go_sem])
    have f1 : w1.frozen? ⟨w.heap.size + 2, 1, none⟩ = false := frozenL hb (by simp) (by simp [go_sem])
    have hz0 : w.heap.size < w1.heap.size := by omega
    have hz1 : w.heap.size + 1 < w1.heap.size := by omega
    have hz2 : w.heap.size + 2 < w1.heap.size := by omega
    clear hb
    rw [GX.out]
    go_wp2_with fail
    refine (l25Ok_any _ (.slice c y.tones.length cc) y _ ⟨u0, u1, hlw.mono (HB.out), hn2⟩).mono ?_
    rintro e w2 ⟨rfl, hb⟩
    have hzb := hb.size
    have z0 := cellB hb z0
    have z1 := cellB hb z1
    have u0 := cellB hb u0
    have u1 := cellB hb u1
    have r0 := cellB hb r0
    have r1 := cellB hb r1
    have f0 := frozenL hb (by simp; omega) f0
    have f1 := frozenL hb (by simp; omega) f1
    have HB := Lib.hid (HB.out.trans (hb.mono HB.out.size))
    have hz : w.heap.size + 3 ≤ w2.heap.size := by omega
    have hz0 : w.heap.size < w2.heap.size := by omega
    have hz1 : w.heap.size + 1 < w2.heap.size := by omega
    have hz2 : w.heap.size + 2 < w2.heap.size := by omega
    clear hb hzb
    rw [GY.out]
    go_wp2_with fail
    refine (l00In_any true _ _ _ _ (yesB GG.out)).mono ?_
    rintro e w3 ⟨rfl, rfl⟩
    go_wp2
    refine bodyPost_ret (v := .tuple #[.agg #[.string ⟨#[]⟩, .slice none 0 0], .int .i64 5]) (by simp [results, Try.results39, go_sem, hz2, r0, r1]) rfl ⟨_, by rw [E2.out], by rw [E1.out]; exact ownT_zero _ _ _, ?_⟩
    have hbw := HB.out
    (repeat (first | with_reducible exact Below.refl _ _ | with_reducible exact hbw | (with_reducible refine Below.setCell ?_ ?_ _; rotate_left; · first | exact Nat.le_refl _ | omega | (simp; done) | (simp; omega)) | (with_reducible refine Below.alloc ?_ ?_ _; rotate_left; · first | exact Nat.le_refl _ | omega | (simp; done) | (simp; omega)) | with_reducible refine below_drewN ?_ _ | with_reducible refine Below.drew ?_))
  obtain ⟨e1, e2⟩ := jo_yes (b := en + g) gf
  have d0 : decide (128 < (x.tones.length : Int) + y.tones.length) = false := by unfold joFits at gf; simp; omega
  have E1 := Lib.hid (E1.out.trans e1); have E2 := Lib.hid (E2.out.trans e2); clear e1 e2 gf
  go_enter Try.func39, Try.ntmps39
  go_wp2_with fail
  refine (l25Ok_any _ (.slice a x.tones.length ca) x _ ⟨by simp [go_sem], by simp [go_sem], hlv.mono (by (repeat (first | with_reducible exact Below.refl _ _ | with_reducible exact hbw | (with_reducible refine Below.setCell ?_ ?_ _; rotate_left; · first | exact Nat.le_refl _ | omega | (simp; done) | (simp; omega)) | (with_reducible refine Below.alloc ?_ ?_ _; rotate_left; · first | exact Nat.le_refl _ | omega | (simp; done) | (simp; omega)) | with_reducible refine below_drewN ?_ _ | with_reducible refine Below.drew ?_))), hn⟩).mono ?_
  rintro e w1 ⟨rfl, hb⟩
  have HB := Lib.hid (show Below w.heap.size w w1 from Below.trans (by (repeat (first | with_reducible exact Below.refl _ _ | with_reducible exact hbw | (with_reducible refine Below.setCell ?_ ?_ _; rotate_left; · first | exact Nat.le_refl _ | omega | (simp; done) | (simp; omega)) | (with_reducible refine Below.alloc ?_ ?_ _; rotate_left; · first | exact Nat.le_refl _ | omega | (simp; done) | (simp; omega)) | with_reducible refine below_drewN ?_ _ | with_reducible refine Below.drew ?_))) (hb.mono (by simp <;> omega)))
  have hz : w.heap.size + 3 ≤ w1.heap.size := by have := hb.size; simp at this; omega
  have z0 : w1.cell? ⟨w.heap.size, 0, none⟩ = some (.string x.name) := cellB hb (by simp [go_sem])
  have z1 : w1.cell? ⟨w.heap.size, 1, none⟩ = some (.slice a x.tones.length ca) := cellB hb (by simp [go_sem])
  have u0 : w1.cell? ⟨w.heap.size + 1, 0, none⟩ = some (.string y.name) := cellB hb (by simp [go_sem])
  have u1 : w1.cell? ⟨w.heap.size + 1, 1, none⟩ = some (.slice c y.tones.length cc) := cellB hb (by simp [go_sem])
  have r0 : w1.cell? ⟨w.heap.size + 2, 0, none⟩ = some (.string ⟨#[]⟩) := cellB hb (by simp [go_sem])
  have r1 : w1.cell? ⟨w.heap.size + 2, 1, none⟩ = some (.slice none 0 0) := cellB hb (by simp [go_sem])
  have f0 : w1.frozen? ⟨w.heap.size + 2, 0, none⟩ = false := frozenL hb (by simp) (by simp [go_sem])
  have f1 : w1.frozen? ⟨w.heap.size + 2, 1, none⟩ = false := frozenL hb (by simp) (by simp [go_sem])
  have hz0 : w.heap.size < w1.heap.size := by omega
  have hz1 : w.heap.size + 1 < w1.heap.size := by omega
  have hz2 : w.heap.size + 2 < w1.heap.size := by omega
  clear hb
  rw [GX.out]
  go_wp2_with fail
  refine (l25Ok_any _ (.slice c y.tones.length cc) y _ ⟨u0, u1, hlw.mono (HB.out), hn2⟩).mono ?_
  rintro e w2 ⟨rfl, hb⟩
  have hzb := hb.size
  have z0 := cellB hb z0
  have z1 := cellB hb z1
  have u0 := cellB hb u0
  have u1 := cellB hb u1
  have r0 := cellB hb r0
  have r1 := cellB hb r1
  have f0 := frozenL hb (by simp; omega) f0
  have f1 := frozenL hb (by simp; omega) f1
  have HB := Lib.hid (HB.out.trans (hb.mono HB.out.size))
  have hz : w.heap.size + 3 ≤ w2.heap.size := by omega
  have hz0 : w.heap.size < w2.heap.size := by omega
  have hz1 : w.heap.size + 1 < w2.heap.size := by omega
  have hz2 : w.heap.size + 2 < w2.heap.size := by omega
  clear hb hzb
  rw [GY.out]
  go_wp2_with fail
  refine (l00In_any true _ _ _ _ (yesB GG.out)).mono ?_
  rintro e w3 ⟨rfl, rfl⟩
  go_wp2_with fail
  refine (l25Own_any _ _ x _ ⟨z0, z1, hlv.mono HB.out, hn⟩ hs).mono ?_
  rintro e w4 ⟨v4, rfl, ho4, hb4⟩
  obtain ⟨c4, cap4, rfl⟩ := ho4.form
  obtain ⟨lv4, e4, hO4⟩ := ho4
  simp only [Value.agg.injEq, Array.mk.injEq, List.cons.injEq, and_true, true_and] at e4
  subst e4
  have hz4 := hb4.size
  have z0' := cellB hb4 z0
  have z1' := cellB hb4 z1
  have HB4 := Lib.hid hb4; have HO4 := Lib.hid hO4
  have HBw4 := Lib.hid (HB.out.trans (hb4.mono HB.out.size))
  have hm0 : w.heap.size < w4.heap.size := by omega
  have hm1 : w.heap.size + 1 < w4.heap.size := by omega
  have hm2 : w.heap.size + 2 < w4.heap.size := by omega
  have hm3 : w.heap.size < w4.heap.size + 1 := by omega
  have hm4 : w.heap.size + 1 < w4.heap.size + 1 := by omega
  have hm5 : w.heap.size + 2 < w4.heap.size + 1 := by omega
  clear hb4 hO4
  go_wp2_with fail
  refine (l25End_any _ (.slice a x.tones.length ca) x _ ⟨by first | (simp [go_sem, z0', hm0]; done) | exact cellB (belowA _ _) z0', by first | (simp [go_sem, z1', hm0]; done) | exact cellB (belowA _ _) z1', hlv.mono (by have hbw := HBw4.out; (repeat (first | with_reducible exact Below.refl _ _ | with_reducible exact hbw | (with_reducible refine Below.setCell ?_ ?_ _; rotate_left; · first | exact Nat.le_refl _ | omega | (simp; done) | (simp; omega)) | (with_reducible refine Below.alloc ?_ ?_ _; rotate_left; · first | exact Nat.le_refl _ | omega | (simp; done) | (simp; omega)) | with_reducible refine below_drewN ?_ _ | with_reducible refine Below.drew ?_))), hn⟩ TX.out).mono ?_
  rintro e w5 ⟨rfl, hq⟩
  rw [← EN.out]
  have hb5 := hq.below (w4.heap.size + 1)
  have hb45 : Below w4.heap.size w4 w5 := Below.trans (by (repeat (first | with_reducible exact Below.refl _ _ | with_reducible exact hbw | (with_reducible refine Below.setCell ?_ ?_ _; rotate_left; · first | exact Nat.le_refl _ | omega | (simp; done) | (simp; omega)) | (with_reducible refine Below.alloc ?_ ?_ _; rotate_left; · first | exact Nat.le_refl _ | omega | (simp; done) | (simp; omega)) | with_reducible refine below_drewN ?_ _ | with_reducible refine Below.drew ?_))) (hb5.mono (by omega))
  have d0' : w5.cell? ⟨w4.heap.size, 0, none⟩ = some (.string x.name) := (hq.cell _).trans (by simp [go_sem])
  have d1' : w5.cell? ⟨w4.heap.size, 1, none⟩ = some (.slice c4 x.tones.length cap4) := (hq.cell _).trans (by simp [go_sem])
  have df' : w5.frozen? ⟨w4.heap.size, 1, none⟩ = false := frozenL hb5 (by simp) (by simp [go_sem])
  have hz5 : w4.heap.size + 1 ≤ w5.heap.size := by have := hb5.size; simpa using this
  have ho5 : w5.ownsRow w3.heap.size 55 3 (.slice c4 x.tones.length cap4) x.tones.length (x.tones.flatMap Ton.cells) := owns_mono HO4.out.1 hb45
  have hin5 : ∀ q, (Value.slice c4 x.tones.length cap4).ownBlock = some q → q ≠ w4.heap.size := fun q hq e => by have := HO4.out.2 q hq; omega
  have hb35 := HB4.out.trans (hb45.mono hz4)
  have HO5 := Lib.hid ho5; have HB35 := Lib.hid hb35; have HN5 := Lib.hid hin5; have Z0 := Lib.hid d0'; have Z1 := Lib.hid d1'; have ZF := Lib.hid df'
  clear hq hb5 hb45 ho5 hin5 hb35 z0' z1' d0' d1' df'
  go_wp2_with fail
  go_loopw [10, 11] (fun i _ wr => ∃ (k : Nat) (a' : Option Addr) (cap' : Nat), k ≤ y.tones.length ∧ i = .int .i64 (k : Int) ∧ wr.ownsRow w3.heap.size 55 3 (.slice a' (x.tones.length + k) cap') (x.tones.length + k) ((x.tones ++ (y.tones.map (shF (en + g))).take k).flatMap Ton.cells) ∧ (∀ q, (Value.slice a' (x.tones.length + k) cap').ownBlock = some q → q ≠ w4.heap.size) ∧ Below w3.heap.size w3 wr ∧ w4.heap.size + 1 ≤ wr.heap.size ∧ wr.cell? ⟨w4.heap.size, 0, none⟩ = some (.string x.name) ∧ wr.cell? ⟨w4.heap.size, 1, none⟩ = some (.slice a' (x.tones.length + k) cap') ∧ wr.frozen? ⟨w4.heap.size, 1, none⟩ = false) (fun i _ _ => y.tones.length - (intOf i).toNat)
  case atStart => exact ⟨0, c4, cap4, Nat.zero_le _, by go_num, by simpa using HO5.out, HN5.out, HB35.out, hz5, Z0.out, Z1.out, ZF.out⟩
  case round =>
    obtain ⟨k, a', cap', hk, rfl, ho, hne, hb, hz', d0, d1, df⟩ := hrel
    have HO := Lib.hid ho; have HN := Lib.hid hne; clear ho hne
    have u0 := cellB hb u0
    have u1 := cellB hb u1
    have l2 : w4.heap.size < wr.heap.size := by omega
    have l3 : w4.heap.size < wr.heap.size + 1 := by omega
    have l4 : w.heap.size + 1 < wr.heap.size := by omega
    have l5 : w.heap.size + 1 < wr.heap.size + 1 := by omega
    have l6 : ¬ w4.heap.size = wr.heap.size := by omega
    have HBr := Lib.hid hb
    by_cases hlt : k < y.tones.length
    · obtain ⟨b1, o1, rfl, hB1, c0, c1, c2⟩ := (hlw.mono (HB.out.trans (hb.mono HB.out.size))).at hlt
      have l1 : b1 < wr.heap.size + 1 := by omega
      have hgg := HG.out
      have ft := (tun_tone GY.out hlt).fits
      have q2 : IntKind.i64.wrap (y.tones[k].start + (en + g)) = y.tones[k].start + (en + g) := IntWalk.i64_in _ (by omega)
      clear ft hb hgg
      go_wp2_with (at_builtin; refine append_one_at rfl _ _ 27 rfl w3.heap.size 55 _ 3 24 Try.underlying27 info_Tone rfl (by decide) _ (x.tones.length + k) _ rfl (owns_mono HO.out (by (repeat (first | with_reducible exact Below.refl _ _ | with_reducible exact hbw | (with_reducible refine Below.setCell ?_ ?_ _; rotate_left; · first | exact Nat.le_refl _ | omega | (simp; done) | (simp; omega)) | (with_reducible refine Below.alloc ?_ ?_ _; rotate_left; · first | exact Nat.le_refl _ | omega | (simp; done) | (simp; omega)) | with_reducible refine below_drewN ?_ _ | with_reducible refine Below.drew ?_)))) [.int .i64 (shF (en + g) y.tones[k]).note, .int .i64 (shF (en + g) y.tones[k]).start, .int .i64 (shF (en + g) y.tones[k]).len] rfl (by intro u hu; simp at hu; rcases hu with rfl | rfl | rfl <;> rfl) (wr.heap.size + 1) (by simp) rfl (by omega) (by decide) (by simp; omega) ?_)
      intro a6 cap6 w6 ho6 hg6 hb6 hat6
      have hst : Below w3.heap.size wr w6 := Below.trans (Below.mono (B := wr.heap.size) (by (repeat (first | with_reducible exact Below.refl _ _ | with_reducible exact hbw | (with_reducible refine Below.setCell ?_ ?_ _; rotate_left; · first | exact Nat.le_refl _ | omega | (simp; done) | (simp; omega)) | (with_reducible refine Below.alloc ?_ ?_ _; rotate_left; · first | exact Nat.le_refl _ | omega | (simp; done) | (simp; omega)) | with_reducible refine below_drewN ?_ _ | with_reducible refine Below.drew ?_))) (by omega)) hb6
      have hz6 := hst.size
      have hnb : some w4.heap.size ≠ (Value.slice a' (x.tones.length + k) cap').ownBlock := fun e => HN.out _ e.symm rfl
      have e0' := grown_cell hg6 (p := ⟨w4.heap.size, 0, none⟩) (by simp; omega) hnb (cellB (show Below wr.heap.size wr _ by (repeat (first | with_reducible exact Below.refl _ _ | with_reducible exact hbw | (with_reducible refine Below.setCell ?_ ?_ _; rotate_left; · first | exact Nat.le_refl _ | omega | (simp; done) | (simp; omega)) | (with_reducible refine Below.alloc ?_ ?_ _; rotate_left; · first | exact Nat.le_refl _ | omega | (simp; done) | (simp; omega)) | with_reducible refine below_drewN ?_ _ | with_reducible refine Below.drew ?_))) d0)
      have e1' := grown_cell hg6 (p := ⟨w4.heap.size, 1, none⟩) (by simp; omega) hnb (cellB (show Below wr.heap.size wr _ by (repeat (first | with_reducible exact Below.refl _ _ | with_reducible exact hbw | (with_reducible refine Below.setCell ?_ ?_ _; rotate_left; · first | exact Nat.le_refl _ | omega | (simp; done) | (simp; omega)) | (with_reducible refine Below.alloc ?_ ?_ _; rotate_left; · first | exact Nat.le_refl _ | omega | (simp; done) | (simp; omega)) | with_reducible refine below_drewN ?_ _ | with_reducible refine Below.drew ?_))) d1)
      have ef' := grown_frozen hg6 (p := ⟨w4.heap.size, 1, none⟩) (by simp; omega) hnb (frozenL (show Below wr.heap.size wr _ by (repeat (first | with_reducible exact Below.refl _ _ | with_reducible exact hbw | (with_reducible refine Below.setCell ?_ ?_ _; rotate_left; · first | exact Nat.le_refl _ | omega | (simp; done) | (simp; omega)) | (with_reducible refine Below.alloc ?_ ?_ _; rotate_left; · first | exact Nat.le_refl _ | omega | (simp; done) | (simp; omega)) | with_reducible refine below_drewN ?_ _ | with_reducible refine Below.drew ?_))) (by simp; omega) df)
      have hn6 : ∀ q, (Value.slice a6 (x.tones.length + k + 1) cap6).ownBlock = some q → q ≠ w4.heap.size := by
        intro q hq
        rcases hat6 with e | e
        · rw [e] at hq; exact HN.out q hq
        · rw [e] at hq; cases hq; omega
      have hl6 : w4.heap.size < w6.heap.size := by omega
      have g0 : (w6.setCell ⟨w4.heap.size, 1, none⟩ (.slice a6 (x.tones.length + k + 1) cap6)).cell? ⟨w4.heap.size, 0, none⟩ = some (.string x.name) := by simp [go_sem, e0', hl6, ef']
      have g1 : (w6.setCell ⟨w4.heap.size, 1, none⟩ (.slice a6 (x.tones.length + k + 1) cap6)).cell? ⟨w4.heap.size, 1, none⟩ = some (.slice a6 (x.tones.length + k + 1) cap6) := by simp [go_sem, e1', hl6, ef']
      have gf : (w6.setCell ⟨w4.heap.size, 1, none⟩ (.slice a6 (x.tones.length + k + 1) cap6)).frozen? ⟨w4.heap.size, 1, none⟩ = false := by simp [go_sem, hl6, ef']
      have ho7 := owns_setCell_ne ho6 (b := w4.heap.size) (o := 1) hn6 (.slice a6 (x.tones.length + k + 1) cap6)
      have hb7 : Below w3.heap.size w3 (w6.setCell ⟨w4.heap.size, 1, none⟩ (.slice a6 (x.tones.length + k + 1) cap6)) := by
        have hbw := HBr.out.trans hst
        (repeat (first | with_reducible exact Below.refl _ _ | with_reducible exact hbw | (with_reducible refine Below.setCell ?_ ?_ _; rotate_left; · first | exact Nat.le_refl _ | omega | (simp; done) | (simp; omega)) | (with_reducible refine Below.alloc ?_ ?_ _; rotate_left; · first | exact Nat.le_refl _ | omega | (simp; done) | (simp; omega)) | with_reducible refine below_drewN ?_ _ | with_reducible refine Below.drew ?_))
      have HG0 := Lib.hid g0; have HG1 := Lib.hid g1; have HGF := Lib.hid gf; have HO7 := Lib.hid ho7; have HB7 := Lib.hid hb7; have HN6 := Lib.hid hn6
      clear g0 g1 gf ho7 hb7 hn6 hst ho6 hg6 hb6 hat6 d0 d1 df hnb
      go_wp2
      go_roundw
      case rel => exact ⟨k + 1, a6, cap6, by omega, by go_num, by rw [List.flatMap_append, map_snoc _ (shF (en + g)) k hlt]; simpa [← Nat.add_assoc] using HO7.out, HN6.out, HB7.out, by simp [World.setCell]; omega, HG0.out, HG1.out, HGF.out⟩
      case measure => simp [intOf] <;> omega
    · obtain rfl : k = y.tones.length := by omega
      have e0 : (y.tones.map (shF (en + g))).take y.tones.length = y.tones.map (shF (en + g)) := List.take_of_length_le (by simp)
      have ho := HO.out
      rw [e0] at ho
      have hjl : (joL x y (en + g)).length = x.tones.length + y.tones.length := by unfold joL; simp
      have hO9 : OwnRow w3.heap.size wr.heap.size wr 55 3 (.slice a' (x.tones.length + y.tones.length) cap') (joL x y (en + g)).length ((joL x y (en + g)).flatMap Ton.cells) := OwnRow.mk' (by rw [hjl]; exact ho)
      have HO9 := Lib.hid hO9
      have r0 := cellB hb r0
      have r1 := cellB hb r1
      have f0 := frozenL hb (by simp; omega) f0
      have f1 := frozenL hb (by simp; omega) f1
      have hzr := hb.size
      clear ho e0 hjl hO9 hb
      go_wp2_with fail
      refine (l25Done_any w3.heap.size _ (.slice a' (x.tones.length + y.tones.length) cap') ⟨x.name, joL x y (en + g)⟩ _ rfl HO9.out hn hzr SR.out).mono ?_
      rintro e w7 ⟨v7, rfl, ho7, hb7⟩
      obtain ⟨tv, htv⟩ : ∃ tv, tv = toV x.name (joL x y (en + g)) := ⟨_, rfl⟩
      obtain ⟨tc, htc⟩ : ∃ tc, tc = toC x.name (joL x y (en + g)) := ⟨_, rfl⟩
      simp only at ho7
      rw [← htv] at ho7
      rw [← htc]
      obtain ⟨c7, cap7, rfl⟩ := ho7.form
      have hz7 := hb7.size
      have r0 := cellB hb7 r0
      have r1 := cellB hb7 r1
      have f0 := frozenL hb7 (by simp; omega) f0
      have f1 := frozenL hb7 (by simp; omega) f1
      have hz8 : w.heap.size + 2 < w7.heap.size := by omega
      have HB7 := Lib.hid (HB.out.trans ((HBr.out.trans (hb7.mono hzr)).mono HB.out.size))
      have HO7 := Lib.hid ho7; have TV := Lib.hid htv; have TC := Lib.hid htc
      clear hb7 ho7 htv htc d0 d1 df
      go_wp2
      refine bodyPost_ret (v := .tuple #[.agg #[.string tv.name, .slice c7 tv.tones.length cap7], .int .i64 tc]) (by simp [results, Try.results39, go_sem, hz8, r0, r1]) rfl ⟨_, by rw [E2.out, TC.out], ?_, ?_⟩
      · rw [E1.out, ← TV.out]
        refine (HO7.out.touch (B' := w.heap.size + 2) (E' := w.heap.size + 3) ?_ (Or.inr (by omega))).wide (by omega) (by simp)
        have htc := Touch.refl (w.heap.size + 2) (w.heap.size + 3) w7
        (repeat (first | with_reducible exact Touch.refl _ _ _ | with_reducible exact htc | (with_reducible refine Touch.setCell ?_ ?_ _; rotate_left; · (simp only; omega)) | (with_reducible refine Touch.setNew ?_ ?_ _; rotate_left; · (first | (simp only; omega) | (simp; done) | (simp; omega))) | with_reducible refine Touch.alloc ?_ _ | with_reducible refine Touch.drewN ?_ _ | with_reducible refine Touch.drew ?_))
      · have hbw := HB7.out
        (repeat (first | with_reducible exact Below.refl _ _ | with_reducible exact hbw | (with_reducible refine Below.setCell ?_ ?_ _; rotate_left; · first | exact Nat.le_refl _ | omega | (simp; done) | (simp; omega)) | (with_reducible refine Below.alloc ?_ ?_ _; rotate_left; · first | exact Nat.le_refl _ | omega | (simp; done) | (simp; omega)) | with_reducible refine below_drewN ?_ _ | with_reducible refine Below.drew ?_))

end Go.Proofs.Ytfnbjegbaobpnaa
