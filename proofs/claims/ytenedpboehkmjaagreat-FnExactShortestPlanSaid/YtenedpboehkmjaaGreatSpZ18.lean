import Derived.Test.YtenedpboehkmjaaGreatSpZ16
import Derived.Test.YtenedpboehkmjaaGreatSpZ17
import Derived.Test.YtenedpboehkmjaaGreatChecked
import Derived.Test.YtenedpboehkmjaaGreatSpZ1
import Derived.Deep.QuietTactic
import Derived.BigQuiet
import Derived.Test.YtenedpboehkmjaaGreatSpZ15
/- The greatest numbers of steps of all zones: contracts of roomOf, limits. -/
set_option linter.unusedSimpArgs false
set_option linter.unnecessarySimpa false
set_option linter.unusedVariables false
set_option maxRecDepth 100000
namespace Go.Proofs.YtenedpboehkmjaaGreat
open Go.RowKit

def roomL (x : PrfD) (zs : List Int) : List Int := (List.range zs.length).map fun z => (mostV x zs z : Int)
def limAt (x : PrfD) (zs : List Int) (most : Int) (z : Nat) : Int := min (mostV x zs z : Int) most
def limL (x : PrfD) (zs : List Int) (most : Int) : List Int := (List.range zs.length).map (limAt x zs most)
section
variable {x : PrfD} {zs : List Int} {most : Int} {k : Nat}
theorem roomL_len : (roomL x zs).length = zs.length := by simp [roomL]
theorem limL_len : (limL x zs most).length = zs.length := by simp [limL]
theorem roomL_take (h : k < zs.length) : (roomL x zs).take (k + 1) = (roomL x zs).take k ++ [(mostV x zs k : Int)] := by
  rw [List.take_succ_eq_append_getElem (by rw [roomL_len]; exact h)]; simp [roomL]
theorem limL_take (h : k < zs.length) : (limL x zs most).take (k + 1) = (limL x zs most).take k ++ [limAt x zs most k] := by
  rw [List.take_succ_eq_append_getElem (by rw [limL_len]; exact h)]; simp [limL]
theorem limL_at (h : k < zs.length) : (limL x zs most).getD k 0 = limAt x zs most k := by simp [limL, h]
theorem limAt_bd (h : 0 ≤ most) : 0 ≤ limAt x zs most k ∧ limAt x zs most k ≤ (mostV x zs k : Int) ∧ limAt x zs most k ≤ 20 := by
  have := mostV_le x zs k
  unfold limAt; omega
/-- The first k numbers cut down, the rest not yet. -/
def partL (x : PrfD) (zs : List Int) (most : Int) (k : Nat) : List Int := (limL x zs most).take k ++ (roomL x zs).drop k
theorem partL_zero : partL x zs most 0 = roomL x zs := by simp [partL]
theorem partL_all : partL x zs most zs.length = limL x zs most := by
  unfold partL
  rw [List.take_of_length_le (by rw [limL_len]; exact Nat.le_refl _), List.drop_eq_nil_of_le (by rw [roomL_len]; exact Nat.le_refl _), List.append_nil]
theorem partL_len (h : k ≤ zs.length) : (partL x zs most k).length = zs.length := by
  unfold partL; rw [List.length_append, List.length_take, List.length_drop, limL_len, roomL_len]; omega
theorem partL_at (h : k < zs.length) : (partL x zs most k)[k]? = some (mostV x zs k : Int) := by
  unfold partL
  rw [List.getElem?_append_right (by rw [List.length_take, limL_len]; omega), List.length_take, limL_len, Nat.min_eq_left (by omega), Nat.sub_self, List.getElem?_drop]
  simp [roomL, h]
theorem partL_set (h : k < zs.length) : (partL x zs most k).set k (limAt x zs most k) = partL x zs most (k + 1) := by
  unfold partL
  rw [limL_take h, List.drop_eq_getElem_cons (by rw [roomL_len]; exact h), List.set_append_right _ _ (by rw [List.length_take, limL_len]; omega), List.length_take, limL_len, Nat.min_eq_left (by omega), Nat.sub_self]
  simp only [List.set_cons_zero, List.append_assoc, List.cons_append, List.nil_append]
end

set_option maxHeartbeats 2000000 in
theorem roomOf_any (v : Value) (x : PrfD) (vz : Value) (zs : List Int) (w : World) (h : RdPrf w v x) (hn : x.name.size ≤ maxLen) (h1 : Ints w vz zs) (ok : prfOk x) (zo : zonesOk x.rings.length zs) :
    Calls Tryz.prog 72 #[v, vz] w fun e w' => ∃ u, e = .returned u ∧ OwnInts w.heap.size w'.heap.size w' u (roomL x zs) ∧ Below w.heap.size w w' := by
  have H := Lib.hid h
  obtain ⟨lv, rfl, hrr⟩ := h
  obtain ⟨a, c, rfl, hc1, hc2, _⟩ := id hrr
  have H1 := Lib.hid h1
  obtain ⟨az, cz, rfl, hz1, hz2, _⟩ := id h1
  have HOK := Lib.hid ok; have HZO := Lib.hid zo
  have hl8 := zo.1.2
  have HNM := Lib.hid hn
  clear hz1 hz2 hrr h1 ok zo hc1 hc2 hn
  go_enter Tryz.func72, Tryz.ntmps72
  go_wp2_with fail
  obtain ⟨wA, hA⟩ : ∃ wA, wA = w.alloc (.cells #[.string x.name, .slice a x.rings.length c] 42) := ⟨_, rfl⟩
  rw [← hA]
  have HBA := Lib.hid (show Below w.heap.size w wA by rw [hA]; (repeat (first | with_reducible exact Below.refl _ _ | with_reducible exact hbw | (with_reducible refine Below.setCell ?_ ?_ _; rotate_left; · first | exact Nat.le_refl _ | omega | (simp; done) | (simp; omega)) | (with_reducible refine Below.alloc ?_ ?_ _; rotate_left; · first | exact Nat.le_refl _ | omega | (simp; done) | (simp; omega)) | with_reducible refine below_drewN ?_ _ | with_reducible refine Below.drew ?_)))
  have BP := Lib.hid (show Box wA w.heap.size [.string x.name, .slice a x.rings.length c] by
    rw [hA]; exact (Box.alloc w _ _ _ rfl))
  clear hA
  go_loopw [5, 6, 9] (fun ov _ iv wr => ∃ (k : Nat) (a' : Option Addr) (c' : Nat), k ≤ zs.length ∧ iv = .int .i64 (k : Int) ∧ ov = .slice a' k c' ∧ wr.ownsRow wA.heap.size 2 1 (.slice a' k c') k (((roomL x zs).take k).map (Value.int .i64)) ∧ Below wA.heap.size wA wr) (fun _ _ iv _ => zs.length - (intOf iv).toNat)
  case atStart => exact ⟨0, none, 0, Nat.zero_le _, by go_num, rfl, by simpa using owns_nil _ _ _ _, Below.refl _ _⟩
  case round =>
    obtain ⟨k, a', c', hk, rfl, rfl, ho, hb⟩ := hrel
    have HO := Lib.hid ho; have HB := Lib.hid hb
    have hz := hb.size
    have HBW := Lib.hid (HBA.out.trans (hb.mono HBA.out.size))
    have BP2 := BP.out.mono hb
    have p0 := BP2.at' 0 _ rfl
    have p1 := BP2.at' 1 _ rfl
    have pl := BP2.lt
    clear ho hb BP2
    by_cases hlt : k < zs.length
    · go_wp2_with fail
      refine (mostSteps_any _ x _ zs k _ (H.out.mono HBW.out) HNM.out (Ints.mono H1.out HBW.out) HOK.out HZO.out hlt).mono ?_
      rintro e w4 ⟨rfl, hb4⟩
      obtain ⟨r0, hr0⟩ : ∃ r0 : Int, r0 = (mostV x zs k : Int) := ⟨_, rfl⟩
      have HW := Lib.hid (roomL_take (x := x) hlt)
      rw [← hr0] at HW ⊢
      have HO2 := Lib.hid (owns_mono HO.out hb4)
      have HBX := Lib.hid (HB.out.trans (hb4.mono HB.out.size))
      have hzy := HBX.out.size
      clear hb4 p0 p1 pl hr0
      go_wp2_with (at_builtin; refine append_one_at rfl _ _ 22 rfl wA.heap.size 2 (.int .i64 0) 1 8 Tryz.underlying22 info_int rfl (by decide) _ k _ rfl HO2.out [.int .i64 r0] rfl (by simp [Value.oneCell']) w4.heap.size rfl rfl (by omega) (by decide) (by omega) ?_)
      intro a7 c7 w7 ho7 hg7 hb7 _
      have HO7 := Lib.hid ho7
      have HB7 := Lib.hid (HBX.out.trans hb7)
      clear ho7 hg7 hb7
      go_wp2
      go_roundw
      case rel => exact ⟨k + 1, a7, c7, by omega, by go_num, rfl, by rw [HW.out]; simpa using HO7.out, HB7.out⟩
      case measure => simp [intOf]; omega
    · obtain rfl : k = zs.length := by omega
      have hHO := HO.out
      rw [List.take_of_length_le (by rw [roomL_len]; exact Nat.le_refl _)] at hHO
      have HO5 := Lib.hid hHO
      clear hHO
      go_wp2
      go_ret
      exact ⟨_, rfl, OwnInts.mk' (by rw [roomL_len]; exact owns_base HO5.out HBA.out.size), HBW.out⟩

set_option maxHeartbeats 4000000 in
theorem limits_any (vm : Value) (x : ModD) (vp : Value) (p : PrfD) (g : GoalD) (w : World) (hm : RdModD w vm x) (hp : RdPrf w vp p) (hn : p.name.size ≤ maxLen) (okp : prfOk p) (zo : zonesOk p.rings.length x.zones) (hg : 0 ≤ g.most ∧ g.most ≤ 20) :
    Calls Tryz.prog 50 #[vm, vp, g.val] w fun e w' => ∃ a c, e = .returned (.slice a x.zones.length c) ∧ Ints w' (.slice a x.zones.length c) (limL p x.zones g.most) ∧ Below w.heap.size w w' ∧ ∀ b o, a = some ⟨b, o, none⟩ → w.heap.size ≤ b := by
  have HP := Lib.hid hp
  have HKP := Lib.hid okp; have HZ := Lib.hid zo
  obtain ⟨vz, vg, vb, rfl, hz, hgg, hb⟩ := hm
  have HIZ := Lib.hid hz
  obtain ⟨az, cz, rfl, _⟩ := id hz
  obtain ⟨ag, cg, rfl⟩ := hgg.form
  obtain ⟨ab, cb, rfl, _⟩ := id hb
  obtain ⟨lv, rfl, hrr⟩ := hp
  obtain ⟨ar, cr, rfl, _⟩ := id hrr
  have hl8 := zo.1.2
  have hl1 := zo.1.1
  have HNM := Lib.hid hn
  have HGM := Lib.hid hg
  clear hz hgg hb hrr okp zo hn hg
  unfold GoalD.val
  go_enter Tryz.func50, Tryz.ntmps50
  go_wp2_with fail
  obtain ⟨wA, hA⟩ : ∃ wA, wA = ((w.alloc (.cells #[.slice az x.zones.length cz, .slice ag x.weights.length cg, .slice ab x.base.length cb] 38)).alloc (.cells #[.string p.name, .slice ar p.rings.length cr] 42)).alloc (.cells #[.int .i64 g.t.a, .int .i64 g.t.b, .int .i64 g.t.c, .int .i64 g.t.d, .int .i64 g.t.e, .int .i64 g.tol, .int .i64 g.most] 46) := ⟨_, rfl⟩
  rw [← hA]
  have HBA := Lib.hid (show Below w.heap.size w wA by rw [hA]; (repeat (first | with_reducible exact Below.refl _ _ | with_reducible exact hbw | (with_reducible refine Below.setCell ?_ ?_ _; rotate_left; · first | exact Nat.le_refl _ | omega | (simp; done) | (simp; omega)) | (with_reducible refine Below.alloc ?_ ?_ _; rotate_left; · first | exact Nat.le_refl _ | omega | (simp; done) | (simp; omega)) | with_reducible refine below_drewN ?_ _ | with_reducible refine Below.drew ?_)))
  have BG := Lib.hid (show Box wA (w.heap.size + 1 + 1) [.int .i64 g.t.a, .int .i64 g.t.b, .int .i64 g.t.c, .int .i64 g.t.d, .int .i64 g.t.e, .int .i64 g.tol, .int .i64 g.most] by
    rw [hA]; exact Box.alloc _ _ _ _ (by simp))
  have HSA := Lib.hid (show wA.heap.size = w.heap.size + 1 + 1 + 1 by rw [hA]; simp)
  clear hA
  refine (roomOf_any _ p _ x.zones _ (HP.out.mono HBA.out) HNM.out (Ints.mono HIZ.out HBA.out) HKP.out HZ.out).mono ?_
  rintro e w1 ⟨v1, rfl, ho, hb⟩
  have HB1 := Lib.hid (HBA.out.trans (hb.mono HBA.out.size))
  have BG1 := Lib.hid (BG.out.mono hb)
  have hz1 := hb.size
  have hrl := roomL_len (x := p) (zs := x.zones)
  obtain ⟨g0, c1, rfl⟩ := ho.form
  rw [hrl] at ho ⊢
  have hor := ho.1
  rw [hrl] at hor
  obtain ⟨q, oq, rfl, _⟩ := (Sl.of_owns hor).cells (by rw [List.length_map, hrl]; omega)
  have hoq : oq = 0 := by
    rcases hor.2 with ⟨h1, h2⟩ | ⟨g', c, cur, h1, h2, _⟩
    · cases h1
    · cases h1; rfl
  subst hoq
  obtain ⟨_, _, e1, hcg1, hcg2, _⟩ := Sl.of_owns hor
  cases e1
  obtain ⟨hg1, hg2⟩ := hor.lt q rfl
  have BX := Lib.hid (Box.of_owns hor)
  have HCG := Lib.hid hcg2
  clear ho hor hb hcg2 hrl
  have hqA : w.heap.size + 1 + 1 < q := by have := HSA.out; omega
  go_wp2_with fail
  go_loopw [8, 15] (fun _ iv wr => ∃ (k : Nat), k ≤ x.zones.length ∧ iv = .int .i64 (k : Int) ∧ Box wr q ((partL p x.zones g.most k).map (Value.int .i64)) ∧ Touch q (q + 1) w1 wr) (fun _ iv _ => x.zones.length - (intOf iv).toNat)
  case atStart => exact ⟨0, Nat.zero_le _, by go_num, by rw [partL_zero]; exact BX.out, Touch.refl _ _ _⟩
  case round =>
    obtain ⟨k, hk, rfl, hbx, ht⟩ := hrel
    have HBX := Lib.hid hbx; have HT := Lib.hid ht
    have HBW := Lib.hid (ht.below HB1.out (by omega) HB1.out.size)
    clear hbx ht
    by_cases hlt : k < x.zones.length
    · have hpa := partL_at (x := p) (most := g.most) hlt
      have d1 := HBX.out.at' k (.int .i64 (mostV p x.zones k : Int)) (by rw [List.getElem?_map, hpa]; rfl)
      have f1 := HBX.out.fr k
      have l1 := HBX.out.lt
      have g6 := (BG1.out.touch HT.out (.inl (by omega))).at' 6 _ rfl
      have hne : ¬ w.heap.size + 1 + 1 = q := by omega
      have hu := HBX.out.set (j := k) (.int .i64 (limAt p x.zones g.most k)) (by rw [List.length_map, partL_len (by omega)]; exact hlt)
      rw [← List.map_set, partL_set hlt] at hu
      obtain ⟨mv, hmv⟩ : ∃ mv : Int, mv = (mostV p x.zones k : Int) := ⟨_, rfl⟩
      have hla : limAt p x.zones g.most k = min mv g.most := by rw [hmv]; rfl
      rw [hla] at hu
      rw [← hmv] at d1
      have HU := Lib.hid hu
      clear hpa hmv hu hla
      go_wp2_with fail
      refine wp_region_ordG [(0, 1), (1, 1), (2, 1), (3, 1), (4, 1), (5, 2), (6, 1), (7, 2), (8, 1), (9, 1), (10, 0)] [10] (some q) (by kernel_rfl) (by kernel_rfl) ?_
      (repeat ((first | with_reducible refine wpOrdG_soft (fun K hK => ?_) | with_reducible refine wpOrdG_pre (fun K hK => ?_)); simp only [List.getElem?_toArray, List.getElem?_cons_zero, List.getElem?_cons_succ]; first | (go_simp; refine hK _ ?_) | (simp only [undef]; go_simp; refine hK _ ?_); clear hK K))
      (with_reducible refine wpOrdG_hard ?_; simp only [List.getElem?_toArray, List.getElem?_cons_zero, List.getElem?_cons_succ])
      go_wp2_with fail
      refine And.intro (grown_cellS (grown_selfS _ _) _ _) ?_
      (with_reducible refine wpOrdG_nil ?_); refine NoPanic.normal ?_
      go_wp2
      go_roundw
      case rel => exact ⟨k + 1, by omega, by go_num, ⟨HU.out.lt, HU.out.at', HU.out.fr⟩, (HT.out.setCell ⟨Nat.le_refl _, Nat.lt_succ_self _⟩ _).drew⟩
      case measure => simp [intOf]; omega
    · obtain rfl : k = x.zones.length := by omega
      have hbx := HBX.out
      rw [partL_all] at hbx
      have HR := Lib.hid (Ints.of_box (cap := c1) hbx limL_len hcg1 HCG.out)
      clear hbx
      go_wp2
      go_ret
      exact ⟨_, _, rfl, HR.out, HBW.out, fun b o e => by cases e; omega⟩
end Go.Proofs.YtenedpboehkmjaaGreat
/- Contracts of the laws' helpers over Cut and slices of it: copy, equality, size, marks. -/
set_option linter.unusedSimpArgs false
set_option linter.unnecessarySimpa false
set_option linter.unusedVariables false
namespace Go.Proofs.YtenedpboehkmjaaGreat
open Go.RowKit

structure CutD where
  zone : Int
  steps : Int
  deriving DecidableEq

def CutD.val (x : CutD) : Value := .agg #[.int .i64 x.zone, .int .i64 x.steps]
def CutD.cells (x : CutD) : List Value := [.int .i64 x.zone, .int .i64 x.steps]
def CutDs (w : World) (v : Value) (xs : List CutD) : Prop := Sl w v xs.length (xs.flatMap CutD.cells)
theorem CutD.ext_iff' (x y : CutD) : x = y ↔ x.zone = y.zone ∧ x.steps = y.steps := by cases x; cases y; simp [CutD.mk.injEq]
theorem CutDs.mono {w w' : World} {v : Value} {xs : List CutD} (h : CutDs w v xs) (hb : Below w.heap.size w w') : CutDs w' v xs := Sl.mono h hb
theorem CutDs.q {w w' : World} {v : Value} {xs : List CutD} (h : CutDs w v xs) (hq : Q w w') : CutDs w' v xs := h.mono (hq.below _)
theorem CutDs.of_owns {w : World} {base : Nat} {e : TypeId} {v : Value} {xs : List CutD} (h : w.ownsRow base e 2 v xs.length (xs.flatMap CutD.cells)) : CutDs w v xs := Sl.of_owns h
theorem CutD.len_cells (xs : List CutD) : (xs.flatMap CutD.cells).length = xs.length * 2 := flat_len (f := CutD.cells) (fun _ => rfl) xs
theorem CutDs.at {w : World} {a : Option Addr} {cap : Nat} {xs : List CutD} {k : Nat} (h : CutDs w (.slice a xs.length cap) xs) (hk : k < xs.length) :
    ∃ b off, a = some ⟨b, off, none⟩ ∧ b < w.heap.size ∧ w.cell? ⟨b, off + k * 2, none⟩ = some (.int .i64 xs[k].zone) ∧ w.cell? ⟨b, off + k * 2 + 1, none⟩ = some (.int .i64 xs[k].steps) := by
  obtain ⟨b, off, rfl, hc⟩ := Sl.cells h (by rw [CutD.len_cells]; omega)
  have h0 := hc (k * 2 + 0) _ (flat_at (f := CutD.cells) (m := 2) (fun _ => rfl) xs k 0 hk (by omega) (u := .int .i64 xs[k].zone) rfl)
  have h1 := hc (k * 2 + 1) _ (flat_at (f := CutD.cells) (m := 2) (fun _ => rfl) xs k 1 hk (by omega) (u := .int .i64 xs[k].steps) rfl)
  exact ⟨b, off, rfl, World.block_lt_of_cell? w _ h0, by simpa [Nat.add_assoc] using h0, by simpa [Nat.add_assoc] using h1⟩

theorem eqCutD_any (x y : CutD) (w : World) :
    Calls Tryz.prog 34 #[.agg #[.int .i64 x.zone, .int .i64 x.steps], .agg #[.int .i64 y.zone, .int .i64 y.steps]] w fun e w' => e = .returned (.bool (decide (x = y))) ∧ Below w.heap.size w w' := by
  by_cases h0 : x.zone = y.zone
  · skip
    by_cases h1 : x.steps = y.steps
    · skip
      have e_zone : (x.zone != y.zone) = false := by simpa using h0
      have e_steps : (x.steps != y.steps) = false := by simpa using h1
      have hd : decide (x = y) = true := by apply decide_eq_true; rw [CutD.ext_iff']; simp [*]
      have HD := Lib.hid hd; clear hd h0 h1
      go_enter Tryz.func34, Tryz.ntmps34
      go_wp2
      go_ret
      refine ⟨by rw [HD.out]; rfl, ?_⟩
      (repeat (first | with_reducible exact Below.refl _ _ | with_reducible exact hbw | (with_reducible refine Below.setCell ?_ ?_ _; rotate_left; · first | exact Nat.le_refl _ | omega | (simp; done) | (simp; omega)) | (with_reducible refine Below.alloc ?_ ?_ _; rotate_left; · first | exact Nat.le_refl _ | omega | (simp; done) | (simp; omega)) | with_reducible refine below_drewN ?_ _ | with_reducible refine Below.drew ?_))
    · skip
      have e_zone : (x.zone != y.zone) = false := by simpa using h0
      have e_steps : (x.steps != y.steps) = true := by simpa using h1
      have hd : decide (x = y) = false := by apply decide_eq_false; rw [CutD.ext_iff']; simp [*]
      have HD := Lib.hid hd; clear hd h0 h1
      go_enter Tryz.func34, Tryz.ntmps34
      go_wp2
      go_ret
      refine ⟨by rw [HD.out]; rfl, ?_⟩
      (repeat (first | with_reducible exact Below.refl _ _ | with_reducible exact hbw | (with_reducible refine Below.setCell ?_ ?_ _; rotate_left; · first | exact Nat.le_refl _ | omega | (simp; done) | (simp; omega)) | (with_reducible refine Below.alloc ?_ ?_ _; rotate_left; · first | exact Nat.le_refl _ | omega | (simp; done) | (simp; omega)) | with_reducible refine below_drewN ?_ _ | with_reducible refine Below.drew ?_))
  · skip
    have e_zone : (x.zone != y.zone) = true := by simpa using h0
    have hd : decide (x = y) = false := by apply decide_eq_false; rw [CutD.ext_iff']; simp [*]
    have HD := Lib.hid hd; clear hd h0
    go_enter Tryz.func34, Tryz.ntmps34
    go_wp2
    go_ret
    refine ⟨by rw [HD.out]; rfl, ?_⟩
    (repeat (first | with_reducible exact Below.refl _ _ | with_reducible exact hbw | (with_reducible refine Below.setCell ?_ ?_ _; rotate_left; · first | exact Nat.le_refl _ | omega | (simp; done) | (simp; omega)) | (with_reducible refine Below.alloc ?_ ?_ _; rotate_left; · first | exact Nat.le_refl _ | omega | (simp; done) | (simp; omega)) | with_reducible refine below_drewN ?_ _ | with_reducible refine Below.drew ?_))

theorem info_Cut : (Tryz.prog.info? 84).map (fun i => (i.zero, i.size, i.bytes)) = some (some (.agg #[.int .i64 0, .int .i64 0]), 2, 16) := by kernel_rfl

/-- The cells of a copy, k elements of it filled. -/
def partCutD (xs : List CutD) (k : Nat) : List Value := (xs.take k).flatMap CutD.cells ++ List.replicate ((xs.length - k) * 2) (.int .i64 0)
theorem partCutD_zero (xs : List CutD) : partCutD xs 0 = List.replicate (xs.length * 2) (.int .i64 0) := by simp [partCutD]
theorem partCutD_all (xs : List CutD) (k : Nat) (h : ¬ k < xs.length) : partCutD xs k = xs.flatMap CutD.cells := by simp [partCutD, List.take_of_length_le (show xs.length ≤ k by omega), show xs.length - k = 0 by omega]
theorem partCutD_open (xs : List CutD) (k : Nat) (h : k < xs.length) : partCutD xs k = (xs.take k).flatMap CutD.cells ++ (.int .i64 0 :: .int .i64 0 :: List.replicate ((xs.length - (k + 1)) * 2) (.int .i64 0)) := by
  unfold partCutD; rw [show (xs.length - k) * 2 = (xs.length - (k + 1)) * 2 + 2 by omega]; simp [List.replicate_succ]
theorem partCutD_step (xs : List CutD) (k : Nat) (h : k < xs.length) : partCutD xs (k + 1) = (xs.take k).flatMap CutD.cells ++ (.int .i64 xs[k].zone :: .int .i64 xs[k].steps :: List.replicate ((xs.length - (k + 1)) * 2) (.int .i64 0)) := by
  unfold partCutD; rw [List.take_succ_eq_append_getElem h]; simp only [List.flatMap_append, List.flatMap_cons, List.flatMap_nil, List.append_nil, List.append_assoc, CutD.cells, List.cons_append, List.nil_append]
theorem partCutD_len (xs : List CutD) (k : Nat) (h : k ≤ xs.length) : ((xs.take k).flatMap CutD.cells).length = k * 2 := by rw [CutD.len_cells, List.length_take, Nat.min_eq_left h]

end Go.Proofs.YtenedpboehkmjaaGreat
/- The search for the plan with the least sum of steps, plain. No program in sight. -/
set_option linter.unusedSimpArgs false
set_option linter.unnecessarySimpa false
set_option linter.unusedVariables false
set_option maxRecDepth 100000
namespace Go.Proofs.YtenedpboehkmjaaGreat
open Go.RowKit

/-- What a search leaves: found, the steps, the nodes left, whether it was spent. -/
structure PRes where
  found : Bool
  st : List Int
  left : Nat
  spent : Bool
open Classical in
/-- Steps j, j + 1, .. are tried in the next zone. -/
noncomputable def tryP (rec : List Int → Nat → PRes) (tried : Nat → Prop) (low : List Int → Prop) (st : List Int) : Nat → Nat → Nat → PRes
  | 0, _, left => ⟨false, st, left, false⟩
  | n + 1, j, left =>
    if tried j then
      (if left = 0 then ⟨false, st, 0, true⟩
       else if low (st ++ [(j : Int)]) then ⟨false, st, left - 1, false⟩
       else if (rec (st ++ [(j : Int)]) (left - 1)).found = true then rec (st ++ [(j : Int)]) (left - 1)
       else if (rec (st ++ [(j : Int)]) (left - 1)).spent = true then ⟨false, st, (rec (st ++ [(j : Int)]) (left - 1)).left, true⟩
       else tryP rec tried low st n (j + 1) (rec (st ++ [(j : Int)]) (left - 1)).left)
    else tryP rec tried low st n (j + 1) left
section
variable {rec : List Int → Nat → PRes} {tried : Nat → Prop} {low : List Int → Prop} {st : List Int} {n j left : Nat}
theorem tryP_end : tryP rec tried low st 0 j left = ⟨false, st, left, false⟩ := rfl
theorem tryP_skip (h : ¬ tried j) : tryP rec tried low st (n + 1) j left = tryP rec tried low st n (j + 1) left := by
  conv => lhs; unfold tryP
  rw [if_neg h]
theorem tryP_spent (h : tried j) (h0 : left = 0) : tryP rec tried low st (n + 1) j left = ⟨false, st, 0, true⟩ := by
  unfold tryP; rw [if_pos h, if_pos h0]
theorem tryP_low (h : tried j) (h0 : ¬ left = 0) (h1 : low (st ++ [(j : Int)])) : tryP rec tried low st (n + 1) j left = ⟨false, st, left - 1, false⟩ := by
  unfold tryP; rw [if_pos h, if_neg h0, if_pos h1]
theorem tryP_found (h : tried j) (h0 : ¬ left = 0) (hl : ¬ low (st ++ [(j : Int)])) (h1 : (rec (st ++ [(j : Int)]) (left - 1)).found = true) : tryP rec tried low st (n + 1) j left = rec (st ++ [(j : Int)]) (left - 1) := by
  unfold tryP; rw [if_pos h, if_neg h0, if_neg hl, if_pos h1]
theorem tryP_deep (h : tried j) (h0 : ¬ left = 0) (hl : ¬ low (st ++ [(j : Int)])) (h1 : (rec (st ++ [(j : Int)]) (left - 1)).found = false) (h2 : (rec (st ++ [(j : Int)]) (left - 1)).spent = true) : tryP rec tried low st (n + 1) j left = ⟨false, st, (rec (st ++ [(j : Int)]) (left - 1)).left, true⟩ := by
  unfold tryP; rw [if_pos h, if_neg h0, if_neg hl, if_neg (by rw [h1]; exact Bool.false_ne_true), if_pos h2]
theorem tryP_next (h : tried j) (h0 : ¬ left = 0) (hl : ¬ low (st ++ [(j : Int)])) (h1 : (rec (st ++ [(j : Int)]) (left - 1)).found = false) (h2 : (rec (st ++ [(j : Int)]) (left - 1)).spent = false) : tryP rec tried low st (n + 1) j left = tryP rec tried low st n (j + 1) (rec (st ++ [(j : Int)]) (left - 1)).left := by
  conv => lhs; unfold tryP
  rw [if_pos h, if_neg h0, if_neg hl, if_neg (by rw [h1]; exact Bool.false_ne_true), if_neg (by rw [h2]; exact Bool.false_ne_true)]
end

def sumL : List Int → Int
  | [] => 0
  | a :: l => a + sumL l
theorem sumL_append (a b : List Int) : sumL (a ++ b) = sumL a + sumL b := by
  induction a with
  | nil => simp [sumL]
  | cons x xs ih => simp [sumL, ih]; omega
theorem sumL_snoc (a : List Int) (n : Int) : sumL (a ++ [n]) = sumL a + n := by rw [sumL_append]; simp [sumL]
theorem sumL_next {xs : List Int} {k : Nat} (h : k < xs.length) : sumL (xs.take (k + 1)) = sumL (xs.take k) + xs.getD k 0 := by
  rw [List.take_succ_eq_append_getElem h, sumL_snoc]; simp [h]
theorem sumL_bd {xs : List Int} (h : ∀ i, i < xs.length → 0 ≤ xs.getD i 0 ∧ xs.getD i 0 ≤ 20) : ∀ k, k ≤ xs.length → 0 ≤ sumL (xs.take k) ∧ sumL (xs.take k) ≤ 20 * (k : Int)
  | 0, _ => by simp [sumL]
  | k + 1, hk => by
    have h1 := sumL_bd h k (by omega)
    have h2 := h k (by omega)
    rw [sumL_next (by omega)]
    omega

/-- Steps are tried: the sum may still come to the total, in the last zone it does. -/
def isTry (lim : List Int) (total : Int) (st : List Int) (n : Nat) : Prop := sumL st + n ≤ total ∧ (st.length + 1 < lim.length ∨ sumL st + n = total)
open Classical in
noncomputable def runP (lim : List Int) (low plan : List Int → Prop) (total : Int) : Nat → List Int → Nat → PRes
  | 0, st, left => if plan st then ⟨true, st, left, false⟩ else ⟨false, st, left, false⟩
  | d + 1, st, left => tryP (runP lim low plan total d) (isTry lim total st) low st ((lim.getD st.length 0).toNat + 1) 0 left
theorem runP_yes {lim : List Int} {low plan : List Int → Prop} {total : Int} {st : List Int} {left : Nat} (h : plan st) : runP lim low plan total 0 st left = ⟨true, st, left, false⟩ := by
  unfold runP; rw [if_pos h]
theorem runP_no {lim : List Int} {low plan : List Int → Prop} {total : Int} {st : List Int} {left : Nat} (h : ¬ plan st) : runP lim low plan total 0 st left = ⟨false, st, left, false⟩ := by
  unfold runP; rw [if_neg h]

/-- The steps so far stay within the limits. -/
def stIn (lim : List Int) (st : List Int) : Prop := ∀ i, i < st.length → 0 ≤ st.getD i 0 ∧ st.getD i 0 ≤ lim.getD i 0
theorem stIn_nil (lim : List Int) : stIn lim [] := fun i hi => by simp at hi
theorem stIn_snoc {lim st : List Int} {j : Nat} (h : stIn lim st) (hj : (j : Int) ≤ lim.getD st.length 0) : stIn lim (st ++ [(j : Int)]) := fun i hi => by
  by_cases e : i < st.length
  · rw [show (st ++ [(j : Int)]).getD i 0 = st.getD i 0 by simp [List.getElem?_append_left e]]
    exact h i e
  · have e : i = st.length := by rw [List.length_append, List.length_singleton] at hi; omega
    subst e
    rw [show (st ++ [(j : Int)]).getD st.length 0 = (j : Int) by simp]
    exact ⟨by omega, hj⟩
structure PResOk (lim : List Int) (d : Nat) (st : List Int) (left : Nat) (r : PRes) : Prop where
  left : r.left ≤ left
  found : r.found = true → r.spent = false ∧ r.st.length = st.length + d ∧ stIn lim r.st
  none : r.found = false → r.st = st
  spent : r.spent = true → r.left = 0
theorem tryP_ok {lim : List Int} {d : Nat} {rec : List Int → Nat → PRes} {tried : Nat → Prop} {low : List Int → Prop} {st : List Int} (hs : stIn lim st) (hr : ∀ q l, q.length = st.length + 1 → stIn lim q → PResOk lim d q l (rec q l)) :
    ∀ (n j left : Nat), (j : Int) + n ≤ lim.getD st.length 0 + 1 → PResOk lim (d + 1) st left (tryP rec tried low st n j left)
  | 0, j, left, _ => ⟨Nat.le_refl _, (fun h => by cases h), fun _ => rfl, (fun h => by cases h)⟩
  | n + 1, j, left, hj => by
    by_cases h : tried j
    · by_cases h0 : left = 0
      · rw [tryP_spent h h0]
        exact ⟨Nat.zero_le _, (fun h => by cases h), fun _ => rfl, fun _ => rfl⟩
      · by_cases hl : low (st ++ [(j : Int)])
        · rw [tryP_low h h0 hl]
          exact ⟨by simp only; omega, (fun h => by cases h), fun _ => rfl, (fun h => by cases h)⟩
        · have R := hr (st ++ [(j : Int)]) (left - 1) (by simp) (stIn_snoc hs (by omega))
          have hll := R.left
          cases h1 : (rec (st ++ [(j : Int)]) (left - 1)).found
          · cases h2 : (rec (st ++ [(j : Int)]) (left - 1)).spent
            · rw [tryP_next h h0 hl h1 h2]
              have := tryP_ok (tried := tried) (low := low) hs hr n (j + 1) (rec (st ++ [(j : Int)]) (left - 1)).left (by omega)
              exact ⟨by have := this.left; omega, this.found, this.none, this.spent⟩
            · rw [tryP_deep h h0 hl h1 h2]
              exact ⟨by simp only; omega, (fun h => by cases h), fun _ => rfl, fun _ => R.spent h2⟩
          · rw [tryP_found h h0 hl h1]
            refine ⟨by omega, fun _ => ?_, (fun h => by rw [h1] at h; cases h), R.spent⟩
            obtain ⟨f1, f2, f3⟩ := R.found h1
            exact ⟨f1, by rw [f2]; simp; omega, f3⟩
    · rw [tryP_skip h]
      exact tryP_ok hs hr n (j + 1) left (by omega)
theorem runP_ok (lim : List Int) (low plan : List Int → Prop) (total : Int) (hl : ∀ i, i < lim.length → 0 ≤ lim.getD i 0) : ∀ d st left, st.length + d = lim.length → stIn lim st → PResOk lim d st left (runP lim low plan total d st left)
  | 0, st, left, _, hs => by
    by_cases h : plan st
    · rw [runP_yes h]; exact ⟨Nat.le_refl _, fun _ => ⟨rfl, rfl, hs⟩, (fun h => by cases h), (fun h => by cases h)⟩
    · rw [runP_no h]; exact ⟨Nat.le_refl _, (fun h => by cases h), fun _ => rfl, (fun h => by cases h)⟩
  | d + 1, st, left, hd, hs => tryP_ok hs (fun q l hq hi => runP_ok lim low plan total hl d q l (by omega) hi) _ 0 left (by have := hl st.length (by omega); omega)

/-- The searches with the sums m, m + 1, .. -/
noncomputable def shortP (lim : List Int) (low plan : List Int → Prop) : Nat → Nat → Nat → PRes
  | 0, _, left => ⟨false, [], left, false⟩
  | n + 1, m, left =>
    if (runP lim low plan m lim.length [] left).found = true then runP lim low plan m lim.length [] left
    else if (runP lim low plan m lim.length [] left).spent = true then ⟨false, [], (runP lim low plan m lim.length [] left).left, true⟩
    else shortP lim low plan n (m + 1) (runP lim low plan m lim.length [] left).left
section
variable {lim : List Int} {low plan : List Int → Prop} {n m left : Nat}
theorem shortP_found (h : (runP lim low plan m lim.length [] left).found = true) : shortP lim low plan (n + 1) m left = runP lim low plan m lim.length [] left := by unfold shortP; rw [if_pos h]
theorem shortP_spent (h : (runP lim low plan m lim.length [] left).found = false) (h2 : (runP lim low plan m lim.length [] left).spent = true) : shortP lim low plan (n + 1) m left = ⟨false, [], (runP lim low plan m lim.length [] left).left, true⟩ := by
  unfold shortP; rw [if_neg (by rw [h]; exact Bool.false_ne_true), if_pos h2]
theorem shortP_next (h : (runP lim low plan m lim.length [] left).found = false) (h2 : (runP lim low plan m lim.length [] left).spent = false) : shortP lim low plan (n + 1) m left = shortP lim low plan n (m + 1) (runP lim low plan m lim.length [] left).left := by
  conv => lhs; unfold shortP
  rw [if_neg (by rw [h]; exact Bool.false_ne_true), if_neg (by rw [h2]; exact Bool.false_ne_true)]
theorem shortP_len (hl : ∀ i, i < lim.length → 0 ≤ lim.getD i 0) : ∀ n m left, (shortP lim low plan n m left).found = true → (shortP lim low plan n m left).st.length = lim.length ∧ stIn lim (shortP lim low plan n m left).st
  | 0, m, left, h => by cases h
  | n + 1, m, left, h => by
    cases h1 : (runP lim low plan m lim.length [] left).found
    · cases h2 : (runP lim low plan m lim.length [] left).spent
      · rw [shortP_next h1 h2] at h ⊢
        exact shortP_len hl n (m + 1) _ h
      · rw [shortP_spent h1 h2] at h; cases h
    · rw [shortP_found h1]
      obtain ⟨_, h2, h3⟩ := (runP_ok lim low plan m hl lim.length [] left (by simp) (stIn_nil _)).found h1
      exact ⟨by simpa using h2, h3⟩
end

/-- One cut for each zone with steps. -/
def cutsFrom (st : List Int) : Nat → List CutD
  | 0 => []
  | k + 1 => if 0 < st.getD k 0 then cutsFrom st k ++ [⟨(k : Int), st.getD k 0⟩] else cutsFrom st k
def cutsV (st : List Int) : List CutD := cutsFrom st st.length
theorem cuts_yes {st : List Int} {k : Nat} (h : 0 < st.getD k 0) : cutsFrom st (k + 1) = cutsFrom st k ++ [⟨(k : Int), st.getD k 0⟩] := if_pos h
theorem cuts_no {st : List Int} {k : Nat} (h : ¬ 0 < st.getD k 0) : cutsFrom st (k + 1) = cutsFrom st k := if_neg h
theorem cutsFrom_len (st : List Int) : ∀ k, (cutsFrom st k).length ≤ k
  | 0 => Nat.le_refl _
  | k + 1 => by
    have := cutsFrom_len st k
    by_cases h : 0 < st.getD k 0
    · rw [cuts_yes h, List.length_append, List.length_singleton]; omega
    · rw [cuts_no h]; omega
end Go.Proofs.YtenedpboehkmjaaGreat
