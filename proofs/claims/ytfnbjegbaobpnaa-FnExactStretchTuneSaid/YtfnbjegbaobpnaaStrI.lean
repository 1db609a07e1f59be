/- Contract of impl.StretchTune. -/
import Derived.Test.YtfnbjegbaobpnaaTransI
import Derived.Test.YtfnbjegbaobpnaaMapped2
import Derived.Test.YtfnbjegbaobpnaaTuneEnd
set_option linter.unusedSimpArgs false
set_option linter.unnecessarySimpa false
set_option linter.unusedVariables false
set_option maxRecDepth 100000
namespace Go.Proofs.Ytfnbjegbaobpnaa
open Go.RowKit

def strF (n d : Int) (x : Ton) : Ton := ⟨x.note, (x.start * n).tdiv d, max 1 (((x.start + x.len) * n).tdiv d - (x.start * n).tdiv d)⟩

theorem enters_str (args : Array Value) (w : World) : Sem.run Try.prog (callFunc 71 args) w = .ok (.enter 71 args) w := by
  first | rfl | (simp [callFunc, go_sem]; done) | (go_simp; done)
theorem tdiv_nn {a b : Int} (h : 0 ≤ a) (hb : 1 ≤ b) : 0 ≤ a.tdiv b ∧ a.tdiv b ≤ a := by
  rw [Int.tdiv_eq_ediv_of_nonneg h]
  exact ⟨Int.ediv_nonneg h (by omega), Int.ediv_le_self b h⟩
theorem mul_bd {a n : Int} (h : 0 ≤ a) (ha : a ≤ 40000) (hn : 1 ≤ n) (hm : n ≤ 100) : 0 ≤ a * n ∧ a * n ≤ 4000000 := by
  refine ⟨Int.mul_nonneg h (by omega), ?_⟩
  have := Int.mul_le_mul ha hm (by omega) (by omega)
  omega
structure StrOk (n d : Int) (x : Ton) : Prop where
  m1 : IntKind.i64.wrap (x.start * n) = x.start * n
  t1 : IntKind.i64.wrap ((x.start * n).tdiv d) = (x.start * n).tdiv d
  a1 : IntKind.i64.wrap (x.start + x.len) = x.start + x.len
  m2 : IntKind.i64.wrap ((x.start + x.len) * n) = (x.start + x.len) * n
  t2 : IntKind.i64.wrap (((x.start + x.len) * n).tdiv d) = ((x.start + x.len) * n).tdiv d
  s : IntKind.i64.wrap (((x.start + x.len) * n).tdiv d - (x.start * n).tdiv d) = ((x.start + x.len) * n).tdiv d - (x.start * n).tdiv d
  b1 : 0 ≤ (x.start * n).tdiv d ∧ (x.start * n).tdiv d ≤ 4000000
  b2 : 0 ≤ ((x.start + x.len) * n).tdiv d ∧ ((x.start + x.len) * n).tdiv d ≤ 4000000
theorem strOk {n d : Int} {x : Ton} (h : TonOk x) (hn : 1 ≤ n) (hm : n ≤ 100) (hd : 1 ≤ d) : StrOk n d x := by
  obtain ⟨f1, f2, f3, f4⟩ := h.fits
  have q1 := mul_bd (a := x.start) f1 (by omega) hn hm
  have q2 := mul_bd (a := x.start + x.len) (by omega) (by omega) hn hm
  have r1 := tdiv_nn q1.1 hd
  have r2 := tdiv_nn q2.1 hd
  exact ⟨IntWalk.i64_in _ (by omega), IntWalk.i64_in _ (by omega), IntWalk.i64_in _ (by omega), IntWalk.i64_in _ (by omega), IntWalk.i64_in _ (by omega), IntWalk.i64_in _ (by omega), by omega, by omega⟩

set_option maxHeartbeats 400000 in
theorem str1_any (x : Ton) (c1 c2 : Nat) (n d : Int) (w : World) (h1 : w.cell? ⟨c1, 0, none⟩ = some (.int .i64 n)) (h2 : w.cell? ⟨c2, 0, none⟩ = some (.int .i64 d)) (ok : TonOk x) (hn : 1 ≤ n) (hm : n ≤ 100) (hd : 1 ≤ d) :
    Calls Try.prog 71 #[.agg #[.int .i64 x.note, .int .i64 x.start, .int .i64 x.len], .pointer (some ⟨c1, 0, none⟩), .pointer (some ⟨c2, 0, none⟩)] w fun e' w' => e' = .returned (.agg #[.int .i64 (strF n d x).note, .int .i64 (strF n d x).start, .int .i64 (strF n d x).len]) ∧ Below w.heap.size w w' := by
  have hl1 := World.block_lt_of_cell? w _ h1
  have hl2 := World.block_lt_of_cell? w _ h2
  simp only at hl1 hl2
  have l1 : c1 < w.heap.size + 1 := by omega
  have l2 : c1 < w.heap.size + 1 + 1 := by omega
  have l3 : c2 < w.heap.size + 1 := by omega
  have l4 : c2 < w.heap.size + 1 + 1 := by omega
  obtain ⟨m1, t1, a1, m2, t2, s, B1, B2⟩ := strOk ok hn hm hd
  have dz : ¬ d = 0 := by omega
  have dz2 : (d == 0) = false := by simpa using dz
  clear hn hm hd ok B1 B2
  go_enter Try.func71, Try.ntmps71
  go_wp2_with fail
  go_quiet (fail)
  go_wp2
  all_goals
    refine bodyPost_ret (v := .agg #[.int .i64 x.note, .int .i64 ((x.start * n).tdiv d), .int .i64 (max 1 (((x.start + x.len) * n).tdiv d - (x.start * n).tdiv d))]) (by simp [results, Try.results71, go_sem]; try omega) rfl ⟨rfl, ?_⟩
    (repeat (first | with_reducible exact Below.refl _ _ | with_reducible exact hbw | (with_reducible refine Below.setCell ?_ ?_ _; rotate_left; · first | exact Nat.le_refl _ | omega | (simp; done) | (simp; omega)) | (with_reducible refine Below.alloc ?_ ?_ _; rotate_left; · first | exact Nat.le_refl _ | omega | (simp; done) | (simp; omega)) | with_reducible refine below_drewN ?_ _ | with_reducible refine Below.drew ?_))

def strIn (n d : Int) : Prop := (1 ≤ n ∧ n ≤ 100) ∧ (1 ≤ d ∧ d ≤ 100)
instance (n d : Int) : Decidable (strIn n d) := by unfold strIn; infer_instance
noncomputable def strV (x : TunD) (n d : Int) : TunD := if validTunB x = true then if strIn n d then toV x.name (x.tones.map (strF n d)) else ⟨.empty, []⟩ else ⟨.empty, []⟩
noncomputable def strC (x : TunD) (n d : Int) : Int := if validTunB x = true then if strIn n d then toC x.name (x.tones.map (strF n d)) else 2 else 1
theorem str_yes {x : TunD} {n d : Int} (h : validTunB x = true) (g : strIn n d) : strV x n d = toV x.name (x.tones.map (strF n d)) ∧ strC x n d = toC x.name (x.tones.map (strF n d)) := by unfold strV strC; rw [if_pos h, if_pos h, if_pos g, if_pos g]; exact ⟨rfl, rfl⟩
theorem str_rng {x : TunD} {n d : Int} (h : validTunB x = true) (g : ¬ strIn n d) : strV x n d = ⟨.empty, []⟩ ∧ strC x n d = 2 := by unfold strV strC; rw [if_pos h, if_pos h, if_neg g, if_neg g]; exact ⟨rfl, rfl⟩
theorem str_inv {x : TunD} {n d : Int} (h : ¬ validTunB x = true) : strV x n d = ⟨.empty, []⟩ ∧ strC x n d = 1 := by unfold strV strC; rw [if_neg h, if_neg h]; exact ⟨rfl, rfl⟩

set_option maxHeartbeats 1000000 in
theorem implStretchTune_any (v : Value) (x : TunD) (n d : Int) (w : World) (h : RdTun w v x) (ok : x.ok) (hs : x.tones.length ≤ 1048576) (_ : I64 n) (_ : I64 d) :
    Calls Try.prog 38 #[v, .int .i64 n, .int .i64 d] w fun e w' => ∃ v', e = .returned (.tuple #[v', .int .i64 (strC x n d)]) ∧ OwnTun w.heap.size w'.heap.size w' v' (strV x n d) ∧ Below w.heap.size w w' := by
  obtain ⟨lv, rfl, hlv⟩ := h
  obtain ⟨a, ca, rfl, hca, hcm, _⟩ := id hlv
  have hn := ok.1
  by_cases g : validTunB x = true
  · by_cases g1 : 1 ≤ n ∧ n ≤ 100
    · by_cases g2 : 1 ≤ d ∧ d ≤ 100
      · obtain ⟨e1, e2⟩ := str_yes g ⟨g1, g2⟩
        have E1 := Lib.hid e1; have E2 := Lib.hid e2; have G := Lib.hid g; have G1 := Lib.hid g1; have G2 := Lib.hid g2; clear e1 e2 g g1 g2
        go_enter Try.func38, Try.ntmps38
        go_wp2_with fail
        refine (implValidTun_any _ (.slice a x.tones.length ca) x _ ⟨rfl, hlv.mono (by (repeat (first | with_reducible exact Below.refl _ _ | with_reducible exact hbw | (with_reducible refine Below.setCell ?_ ?_ _; rotate_left; · first | exact Nat.le_refl _ | omega | (simp; done) | (simp; omega)) | (with_reducible refine Below.alloc ?_ ?_ _; rotate_left; · first | exact Nat.le_refl _ | omega | (simp; done) | (simp; omega)) | with_reducible refine below_drewN ?_ _ | with_reducible refine Below.drew ?_)))⟩ hn).mono ?_
        rintro e w1 ⟨rfl, hb⟩
        have HB := Lib.hid (show Below w.heap.size w w1 from Below.trans (by (repeat (first | with_reducible exact Below.refl _ _ | with_reducible exact hbw | (with_reducible refine Below.setCell ?_ ?_ _; rotate_left; · first | exact Nat.le_refl _ | omega | (simp; done) | (simp; omega)) | (with_reducible refine Below.alloc ?_ ?_ _; rotate_left; · first | exact Nat.le_refl _ | omega | (simp; done) | (simp; omega)) | with_reducible refine below_drewN ?_ _ | with_reducible refine Below.drew ?_))) (hb.mono (by simp <;> omega)))
        have hz : w.heap.size + 4 ≤ w1.heap.size := by have := hb.size; simp at this; omega
        have z0 : w1.cell? ⟨w.heap.size, 0, none⟩ = some (.string x.name) := cellB hb (by simp [go_sem])
        have z1 : w1.cell? ⟨w.heap.size, 1, none⟩ = some (.slice a x.tones.length ca) := cellB hb (by simp [go_sem])
        have z2 : w1.cell? ⟨w.heap.size + 1, 0, none⟩ = some (.int .i64 n) := cellB hb (by simp [go_sem])
        have z3 : w1.cell? ⟨w.heap.size + 2, 0, none⟩ = some (.int .i64 d) := cellB hb (by simp [go_sem])
        have r0 : w1.cell? ⟨w.heap.size + 3, 0, none⟩ = some (.string ⟨#[]⟩) := cellB hb (by simp [go_sem])
        have r1 : w1.cell? ⟨w.heap.size + 3, 1, none⟩ = some (.slice none 0 0) := cellB hb (by simp [go_sem])
        have f0 : w1.frozen? ⟨w.heap.size + 3, 0, none⟩ = false := frozenL hb (by simp) (by simp [go_sem])
        have f1 : w1.frozen? ⟨w.heap.size + 3, 1, none⟩ = false := frozenL hb (by simp) (by simp [go_sem])
        have hz0 : w.heap.size < w1.heap.size := by omega
        have hz1 : w.heap.size + 1 < w1.heap.size := by omega
        have hz2 : w.heap.size + 2 < w1.heap.size := by omega
        have hz3 : w.heap.size + 3 < w1.heap.size := by omega
        clear hb
        rw [G.out]
        go_wp2_with fail
        refine (within_any true _ _ _ _ (yesB G1.out)).mono ?_
        rintro e w2 ⟨rfl, rfl⟩
        go_wp2_with fail
        refine (within_any true _ _ _ _ (yesB G2.out)).mono ?_
        rintro e w3 ⟨rfl, rfl⟩
        go_wp2_with fail
        have hTo : Tun w3 (.agg #[.string x.name, .slice a x.tones.length ca]) (.slice a x.tones.length ca) x := ⟨rfl, hlv.mono HB.out⟩
        refine (mapped2_any 71 (.pointer (some ⟨w.heap.size + 1, 0, none⟩)) (.pointer (some ⟨w.heap.size + 2, 0, none⟩)) (strF n d) _ _ x _ hTo hn (Nat.le_trans (tun_len G.out) (by decide)) enters_str (fun k hk w3 hb3 => str1_any x.tones[k] _ _ n d w3 (cellB hb3 z2) (cellB hb3 z3) (tun_tone G.out hk) G1.out.1 G1.out.2 G2.out.1)).mono ?_
        rintro e w4 ⟨v3, rfl, ho3, hb3⟩
        obtain ⟨c1, cap1, rfl⟩ := ho3.form
        have hz5 := hb3.size
        have r0 := cellB hb3 r0
        have r1 := cellB hb3 r1
        have f0 := frozenL hb3 (by simp; omega) f0
        have f1 := frozenL hb3 (by simp; omega) f1
        have hz4 : w.heap.size + 3 < w4.heap.size := by omega
        have HB3 := Lib.hid (HB.out.trans (hb3.mono (by omega)))
        have HO3 := Lib.hid ho3
        clear hb3 ho3 z0 z1 z2 z3
        go_wp2
        refine bodyPost_ret (v := .tuple #[.agg #[.string (toV x.name (x.tones.map (strF n d))).name, .slice c1 (toV x.name (x.tones.map (strF n d))).tones.length cap1], .int .i64 (toC x.name (x.tones.map (strF n d)))]) (by simp [results, Try.results38, go_sem, hz4, r0, r1]) rfl ⟨_, by rw [E2.out], ?_, ?_⟩
        · rw [E1.out]
          refine (HO3.out.touch (B' := w.heap.size + 3) (E' := w.heap.size + 4) ?_ (Or.inr hz)).wide (by omega) (by simp)
          have htc := Touch.refl (w.heap.size + 3) (w.heap.size + 4) w4
          (repeat (first | with_reducible exact Touch.refl _ _ _ | with_reducible exact htc | (with_reducible refine Touch.setCell ?_ ?_ _; rotate_left; · (simp only; omega)) | (with_reducible refine Touch.setNew ?_ ?_ _; rotate_left; · (first | (simp only; omega) | (simp; done) | (simp; omega))) | with_reducible refine Touch.alloc ?_ _ | with_reducible refine Touch.drewN ?_ _ | with_reducible refine Touch.drew ?_))
        · have hbw := HB3.out
          (repeat (first | with_reducible exact Below.refl _ _ | with_reducible exact hbw | (with_reducible refine Below.setCell ?_ ?_ _; rotate_left; · first | exact Nat.le_refl _ | omega | (simp; done) | (simp; omega)) | (with_reducible refine Below.alloc ?_ ?_ _; rotate_left; · first | exact Nat.le_refl _ | omega | (simp; done) | (simp; omega)) | with_reducible refine below_drewN ?_ _ | with_reducible refine Below.drew ?_))
      · obtain ⟨e1, e2⟩ := str_rng (n := n) (d := d) g (fun h => g2 h.2)
        have E1 := Lib.hid e1; have E2 := Lib.hid e2; have G := Lib.hid g; have G1 := Lib.hid g1; have G2 := Lib.hid g2; clear e1 e2 g g1 g2
        go_enter Try.func38, Try.ntmps38
        go_wp2_with fail
        refine (implValidTun_any _ (.slice a x.tones.length ca) x _ ⟨rfl, hlv.mono (by (repeat (first | with_reducible exact Below.refl _ _ | with_reducible exact hbw | (with_reducible refine Below.setCell ?_ ?_ _; rotate_left; · first | exact Nat.le_refl _ | omega | (simp; done) | (simp; omega)) | (with_reducible refine Below.alloc ?_ ?_ _; rotate_left; · first | exact Nat.le_refl _ | omega | (simp; done) | (simp; omega)) | with_reducible refine below_drewN ?_ _ | with_reducible refine Below.drew ?_)))⟩ hn).mono ?_
        rintro e w1 ⟨rfl, hb⟩
        have HB := Lib.hid (show Below w.heap.size w w1 from Below.trans (by (repeat (first | with_reducible exact Below.refl _ _ | with_reducible exact hbw | (with_reducible refine Below.setCell ?_ ?_ _; rotate_left; · first | exact Nat.le_refl _ | omega | (simp; done) | (simp; omega)) | (with_reducible refine Below.alloc ?_ ?_ _; rotate_left; · first | exact Nat.le_refl _ | omega | (simp; done) | (simp; omega)) | with_reducible refine below_drewN ?_ _ | with_reducible refine Below.drew ?_))) (hb.mono (by simp <;> omega)))
        have hz : w.heap.size + 4 ≤ w1.heap.size := by have := hb.size; simp at this; omega
        have z0 : w1.cell? ⟨w.heap.size, 0, none⟩ = some (.string x.name) := cellB hb (by simp [go_sem])
        have z1 : w1.cell? ⟨w.heap.size, 1, none⟩ = some (.slice a x.tones.length ca) := cellB hb (by simp [go_sem])
        have z2 : w1.cell? ⟨w.heap.size + 1, 0, none⟩ = some (.int .i64 n) := cellB hb (by simp [go_sem])
        have z3 : w1.cell? ⟨w.heap.size + 2, 0, none⟩ = some (.int .i64 d) := cellB hb (by simp [go_sem])
        have r0 : w1.cell? ⟨w.heap.size + 3, 0, none⟩ = some (.string ⟨#[]⟩) := cellB hb (by simp [go_sem])
        have r1 : w1.cell? ⟨w.heap.size + 3, 1, none⟩ = some (.slice none 0 0) := cellB hb (by simp [go_sem])
        have f0 : w1.frozen? ⟨w.heap.size + 3, 0, none⟩ = false := frozenL hb (by simp) (by simp [go_sem])
        have f1 : w1.frozen? ⟨w.heap.size + 3, 1, none⟩ = false := frozenL hb (by simp) (by simp [go_sem])
        have hz0 : w.heap.size < w1.heap.size := by omega
        have hz1 : w.heap.size + 1 < w1.heap.size := by omega
        have hz2 : w.heap.size + 2 < w1.heap.size := by omega
        have hz3 : w.heap.size + 3 < w1.heap.size := by omega
        clear hb
        rw [G.out]
        go_wp2_with fail
        refine (within_any true _ _ _ _ (yesB G1.out)).mono ?_
        rintro e w2 ⟨rfl, rfl⟩
        go_wp2_with fail
        refine (within_any false _ _ _ _ (noB G2.out)).mono ?_
        rintro e w3 ⟨rfl, rfl⟩
        go_wp2
        refine bodyPost_ret (v := .tuple #[.agg #[.string ⟨#[]⟩, .slice none 0 0], .int .i64 2]) (by simp [results, Try.results38, go_sem, hz3, r0, r1]) rfl ⟨_, by rw [E2.out], by rw [E1.out]; exact ownT_zero _ _ _, ?_⟩
        have hbw := HB.out
        (repeat (first | with_reducible exact Below.refl _ _ | with_reducible exact hbw | (with_reducible refine Below.setCell ?_ ?_ _; rotate_left; · first | exact Nat.le_refl _ | omega | (simp; done) | (simp; omega)) | (with_reducible refine Below.alloc ?_ ?_ _; rotate_left; · first | exact Nat.le_refl _ | omega | (simp; done) | (simp; omega)) | with_reducible refine below_drewN ?_ _ | with_reducible refine Below.drew ?_))
    · obtain ⟨e1, e2⟩ := str_rng (n := n) (d := d) g (fun h => g1 h.1)
      have E1 := Lib.hid e1; have E2 := Lib.hid e2; have G := Lib.hid g; have G1 := Lib.hid g1; clear e1 e2 g g1
      go_enter Try.func38, Try.ntmps38
      go_wp2_with fail
      refine (implValidTun_any _ (.slice a x.tones.length ca) x _ ⟨rfl, hlv.mono (by (repeat (first | with_reducible exact Below.refl _ _ | with_reducible exact hbw | (with_reducible refine Below.setCell ?_ ?_ _; rotate_left; · first | exact Nat.le_refl _ | omega | (simp; done) | (simp; omega)) | (with_reducible refine Below.alloc ?_ ?_ _; rotate_left; · first | exact Nat.le_refl _ | omega | (simp; done) | (simp; omega)) | with_reducible refine below_drewN ?_ _ | with_reducible refine Below.drew ?_)))⟩ hn).mono ?_
      rintro e w1 ⟨rfl, hb⟩
      have HB := Lib.hid (show Below w.heap.size w w1 from Below.trans (by (repeat (first | with_reducible exact Below.refl _ _ | with_reducible exact hbw | (with_reducible refine Below.setCell ?_ ?_ _; rotate_left; · first | exact Nat.le_refl _ | omega | (simp; done) | (simp; omega)) | (with_reducible refine Below.alloc ?_ ?_ _; rotate_left; · first | exact Nat.le_refl _ | omega | (simp; done) | (simp; omega)) | with_reducible refine below_drewN ?_ _ | with_reducible refine Below.drew ?_))) (hb.mono (by simp <;> omega)))
      have hz : w.heap.size + 4 ≤ w1.heap.size := by have := hb.size; simp at this; omega
      have z0 : w1.cell? ⟨w.heap.size, 0, none⟩ = some (.string x.name) := cellB hb (by simp [go_sem])
      have z1 : w1.cell? ⟨w.heap.size, 1, none⟩ = some (.slice a x.tones.length ca) := cellB hb (by simp [go_sem])
      have z2 : w1.cell? ⟨w.heap.size + 1, 0, none⟩ = some (.int .i64 n) := cellB hb (by simp [go_sem])
      have z3 : w1.cell? ⟨w.heap.size + 2, 0, none⟩ = some (.int .i64 d) := cellB hb (by simp [go_sem])
      have r0 : w1.cell? ⟨w.heap.size + 3, 0, none⟩ = some (.string ⟨#[]⟩) := cellB hb (by simp [go_sem])
      have r1 : w1.cell? ⟨w.heap.size + 3, 1, none⟩ = some (.slice none 0 0) := cellB hb (by simp [go_sem])
      have f0 : w1.frozen? ⟨w.heap.size + 3, 0, none⟩ = false := frozenL hb (by simp) (by simp [go_sem])
      have f1 : w1.frozen? ⟨w.heap.size + 3, 1, none⟩ = false := frozenL hb (by simp) (by simp [go_sem])
      have hz0 : w.heap.size < w1.heap.size := by omega
      have hz1 : w.heap.size + 1 < w1.heap.size := by omega
      have hz2 : w.heap.size + 2 < w1.heap.size := by omega
      have hz3 : w.heap.size + 3 < w1.heap.size := by omega
      clear hb
      rw [G.out]
      go_wp2_with fail
      refine (within_any false _ _ _ _ (noB G1.out)).mono ?_
      rintro e w2 ⟨rfl, rfl⟩
      go_wp2
      refine bodyPost_ret (v := .tuple #[.agg #[.string ⟨#[]⟩, .slice none 0 0], .int .i64 2]) (by simp [results, Try.results38, go_sem, hz3, r0, r1]) rfl ⟨_, by rw [E2.out], by rw [E1.out]; exact ownT_zero _ _ _, ?_⟩
      have hbw := HB.out
      (repeat (first | with_reducible exact Below.refl _ _ | with_reducible exact hbw | (with_reducible refine Below.setCell ?_ ?_ _; rotate_left; · first | exact Nat.le_refl _ | omega | (simp; done) | (simp; omega)) | (with_reducible refine Below.alloc ?_ ?_ _; rotate_left; · first | exact Nat.le_refl _ | omega | (simp; done) | (simp; omega)) | with_reducible refine below_drewN ?_ _ | with_reducible refine Below.drew ?_))
  · obtain ⟨e1, e2⟩ := str_inv (n := n) (d := d) g
    have E1 := Lib.hid e1; have E2 := Lib.hid e2; have G := Lib.hid (show validTunB x = false by simpa using g); clear e1 e2 g
    go_enter Try.func38, Try.ntmps38
    go_wp2_with fail
    refine (implValidTun_any _ (.slice a x.tones.length ca) x _ ⟨rfl, hlv.mono (by (repeat (first | with_reducible exact Below.refl _ _ | with_reducible exact hbw | (with_reducible refine Below.setCell ?_ ?_ _; rotate_left; · first | exact Nat.le_refl _ | omega | (simp; done) | (simp; omega)) | (with_reducible refine Below.alloc ?_ ?_ _; rotate_left; · first | exact Nat.le_refl _ | omega | (simp; done) | (simp; omega)) | with_reducible refine below_drewN ?_ _ | with_reducible refine Below.drew ?_)))⟩ hn).mono ?_
    rintro e w1 ⟨rfl, hb⟩
    have HB := Lib.hid (show Below w.heap.size w w1 from Below.trans (by (repeat (first | with_reducible exact Below.refl _ _ | with_reducible exact hbw | (with_reducible refine Below.setCell ?_ ?_ _; rotate_left; · first | exact Nat.le_refl _ | omega | (simp; done) | (simp; omega)) | (with_reducible refine Below.alloc ?_ ?_ _; rotate_left; · first | exact Nat.le_refl _ | omega | (simp; done) | (simp; omega)) | with_reducible refine below_drewN ?_ _ | with_reducible refine Below.drew ?_))) (hb.mono (by simp <;> omega)))
    have hz : w.heap.size + 4 ≤ w1.heap.size := by have := hb.size; simp at this; omega
    have z0 : w1.cell? ⟨w.heap.size, 0, none⟩ = some (.string x.name) := cellB hb (by simp [go_sem])
    have z1 : w1.cell? ⟨w.heap.size, 1, none⟩ = some (.slice a x.tones.length ca) := cellB hb (by simp [go_sem])
    have z2 : w1.cell? ⟨w.heap.size + 1, 0, none⟩ = some (.int .i64 n) := cellB hb (by simp [go_sem])
    have z3 : w1.cell? ⟨w.heap.size + 2, 0, none⟩ = some (.int .i64 d) := cellB hb (by simp [go_sem])
    have r0 : w1.cell? ⟨w.heap.size + 3, 0, none⟩ = some (.string ⟨#[]⟩) := cellB hb (by simp [go_sem])
    have r1 : w1.cell? ⟨w.heap.size + 3, 1, none⟩ = some (.slice none 0 0) := cellB hb (by simp [go_sem])
    have f0 : w1.frozen? ⟨w.heap.size + 3, 0, none⟩ = false := frozenL hb (by simp) (by simp [go_sem])
    have f1 : w1.frozen? ⟨w.heap.size + 3, 1, none⟩ = false := frozenL hb (by simp) (by simp [go_sem])
    have hz0 : w.heap.size < w1.heap.size := by omega
    have hz1 : w.heap.size + 1 < w1.heap.size := by omega
    have hz2 : w.heap.size + 2 < w1.heap.size := by omega
    have hz3 : w.heap.size + 3 < w1.heap.size := by omega
    clear hb
    rw [G.out]
    go_wp2
    refine bodyPost_ret (v := .tuple #[.agg #[.string ⟨#[]⟩, .slice none 0 0], .int .i64 1]) (by simp [results, Try.results38, go_sem, hz3, r0, r1]) rfl ⟨_, by rw [E2.out], by rw [E1.out]; exact ownT_zero _ _ _, ?_⟩
    have hbw := HB.out
    (repeat (first | with_reducible exact Below.refl _ _ | with_reducible exact hbw | (with_reducible refine Below.setCell ?_ ?_ _; rotate_left; · first | exact Nat.le_refl _ | omega | (simp; done) | (simp; omega)) | (with_reducible refine Below.alloc ?_ ?_ _; rotate_left; · first | exact Nat.le_refl _ | omega | (simp; done) | (simp; omega)) | with_reducible refine below_drewN ?_ _ | with_reducible refine Below.drew ?_))

end Go.Proofs.Ytfnbjegbaobpnaa
