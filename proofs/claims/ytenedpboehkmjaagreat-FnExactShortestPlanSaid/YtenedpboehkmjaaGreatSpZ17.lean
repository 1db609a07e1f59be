import Derived.Test.YtenedpboehkmjaaGreatSpZ16
import Derived.Test.YtenedpboehkmjaaGreatSpZ15
/- The lip of a profile. -/
set_option linter.unusedSimpArgs false
set_option linter.unnecessarySimpa false
set_option linter.unusedVariables false
set_option maxRecDepth 100000
namespace Go.Proofs.YtenedpboehkmjaaGreat
open Go.RowKit

def lipV (xs : List Rng) : Int := 2 * (rg xs 0).outer
def areaV (xs : List Rng) : Int := near (lipV xs * lipV xs) 1000000
theorem lip_bd {x : PrfD} (h : prfOk x) : 1000 ≤ lipV x.rings ∧ lipV x.rings ≤ 300000 := by
  have h1 := (h.2.2.1 0 (by have := h.2.1.1; omega)).1.1
  unfold lipV; omega
set_option maxHeartbeats 1000000 in
theorem lip_any (v : Value) (x : PrfD) (w : World) (h : RdPrf w v x) (ok : prfOk x) :
    Calls Tryz.prog 126 #[v] w fun e w' => e = .returned (.int .i64 (lipV x.rings)) ∧ Below w.heap.size w w' := by
  obtain ⟨lv, rfl, hrr⟩ := h
  obtain ⟨a, c, rfl, _⟩ := id hrr
  have hp : 0 < x.rings.length := ok.2.1.1
  have hp' : (0 : Int) < (x.rings.length : Int) := by omega
  have hb := belowA w (.cells #[.string x.name, .slice a x.rings.length c] 42)
  obtain ⟨b1, o1, rfl, hB, d0, d1, d2⟩ := (hrr.mono hb).at hp
  have hl := lip_bd ok
  have gr := rg_at hp
  rw [← gr] at d0
  simp only [Nat.zero_mul, Nat.add_zero] at d0
  unfold lipV at hl ⊢
  obtain ⟨y, hy⟩ : ∃ y, y = (rg x.rings 0).outer := ⟨_, rfl⟩
  rw [← hy] at d0 hl ⊢
  have w1' : IntKind.i64.wrap (2 * y) = 2 * y := IntWalk.i64_in _ (by omega)
  clear hy gr hl ok d1 d2 hb
  go_enter Tryz.func126, Tryz.ntmps126
  go_wp2
  go_ret
  exact ⟨rfl, belowA _ _⟩

theorem sq_bd {d : Int} (h1 : 1000 ≤ d) (h2 : d ≤ 300000) : 1000000 ≤ d * d ∧ d * d ≤ 90000000000 := by
  have a := Int.mul_le_mul h1 h1 (by omega) (by omega)
  have b := Int.mul_le_mul h2 h2 (by omega) (by omega)
  omega
set_option maxHeartbeats 1000000 in
theorem l08Area_any (q o : Nat) (x : PrfD) (w : World) {a : Option Addr} {c : Nat} (h : PrfIn w q o x a c) (ok : prfOk x) :
    Calls Tryz.prog 90 #[.pointer (some ⟨q, o, none⟩)] w fun e w' => e = .returned (.int .i64 (areaV x.rings)) ∧ w' = w := by
  have hp : 0 < x.rings.length := ok.2.1.1
  have hp' : (0 : Int) < (x.rings.length : Int) := by omega
  have c1 := h.c1
  have l0 := h.lt
  obtain ⟨b1, o1, rfl, hB, d0, d1, d2⟩ := h.r.at hp
  have hl := lip_bd ok
  have gr := rg_at hp
  rw [← gr] at d0
  simp only [Nat.zero_mul, Nat.add_zero] at d0
  unfold areaV
  unfold lipV at hl ⊢
  obtain ⟨y, hy⟩ : ∃ y, y = (rg x.rings 0).outer := ⟨_, rfl⟩
  rw [← hy] at d0 hl ⊢
  obtain ⟨s1, s2⟩ := sq_bd hl.1 hl.2
  have w1' : IntKind.i64.wrap (2 * y) = 2 * y := IntWalk.i64_in _ (by omega)
  have w2' : IntKind.i64.wrap (2 * y * (2 * y)) = 2 * y * (2 * y) := IntWalk.i64_in _ (by omega)
  clear hy gr hl ok d1 d2 h
  go_enter Tryz.func90, Tryz.ntmps90
  go_wp2_with fail
  refine (l01Div_any _ (2 * y * (2 * y)) 1000000 _ rfl (by omega) (by omega) (by omega) (by omega)).mono ?_
  rintro e w4 ⟨rfl, rfl⟩
  obtain ⟨r0, hr0⟩ : ∃ r0, r0 = near (2 * y * (2 * y)) 1000000 := ⟨_, rfl⟩
  rw [← hr0]
  have HR := Lib.hid hr0
  clear hr0
  go_wp2
  go_ret
  exact ⟨by rw [HR.out]; rfl, rfl⟩
end Go.Proofs.YtenedpboehkmjaaGreat
/- Walls of zones: contract of zoneWalls. -/
set_option linter.unusedSimpArgs false
set_option linter.unnecessarySimpa false
set_option linter.unusedVariables false
set_option maxRecDepth 100000
namespace Go.Proofs.YtenedpboehkmjaaGreat
open Go.RowKit

set_option maxHeartbeats 2000000 in
theorem zoneWalls_any (v : Value) (x : PrfD) (vz : Value) (zs : List Int) (w : World) (h : RdPrf w v x) (h1 : Ints w vz zs) (ok : prfOk x) (zo : zonesOk x.rings.length zs) :
    Calls Tryz.prog 125 #[v, vz] w fun e w' => ∃ v', e = .returned v' ∧ OwnInts w.heap.size w'.heap.size w' v' (walls x.rings zs) ∧ Below w.heap.size w w' := by
  have H := Lib.hid h
  obtain ⟨lv, rfl, hrr⟩ := h
  have HRS := Lib.hid hrr
  obtain ⟨a, c, rfl, hc1, hc2, _⟩ := id hrr
  have H1 := Lib.hid h1
  obtain ⟨az, cz, rfl, hz1, hz2, _⟩ := id h1
  have HOK := Lib.hid ok; have HZO := Lib.hid zo
  have hl8 := zo.1.2
  have hl32 := ok.2.1.2
  clear hz1 hz2 hrr h1 ok zo
  go_enter Tryz.func125, Tryz.ntmps125
  go_wp2_with fail
  obtain ⟨wA, hA⟩ : ∃ wA, wA = w.alloc (.cells #[.string x.name, .slice a x.rings.length c] 42) := ⟨_, rfl⟩
  rw [← hA]
  have HBA := Lib.hid (show Below w.heap.size w wA by rw [hA]; (repeat (first | with_reducible exact Below.refl _ _ | with_reducible exact hbw | (with_reducible refine Below.setCell ?_ ?_ _; rotate_left; · first | exact Nat.le_refl _ | omega | (simp; done) | (simp; omega)) | (with_reducible refine Below.alloc ?_ ?_ _; rotate_left; · first | exact Nat.le_refl _ | omega | (simp; done) | (simp; omega)) | with_reducible refine below_drewN ?_ _ | with_reducible refine Below.drew ?_)))
  have BB := Lib.hid (show Box wA w.heap.size [.string x.name, .slice a x.rings.length c] by
    rw [hA]; exact Box.alloc w _ _ _ rfl)
  clear hA
  have hzA := HBA.out.size
  go_loopw [5, 6, 7, 8, 9, 14] (fun o _ _ _ _ iv wr => ∃ (k : Nat) (a' : Option Addr) (c' : Nat), k ≤ zs.length ∧ iv = .int .i64 (k : Int) ∧ o = .slice a' k c' ∧ wr.ownsRow wA.heap.size 2 1 (.slice a' k c') k (((walls x.rings zs).take k).map (Value.int .i64)) ∧ Below wA.heap.size wA wr) (fun _ _ _ _ _ iv _ => zs.length - (intOf iv).toNat)
  case atStart => exact ⟨0, none, 0, Nat.zero_le _, by go_num, rfl, by simpa using owns_nil _ _ _ _, Below.refl _ _⟩
  case round =>
    obtain ⟨k, a', c', hk, rfl, rfl, ho, hb⟩ := hrel
    have HO := Lib.hid ho; have HB := Lib.hid hb
    have B1 := BB.out.mono hb
    have hz := hb.size
    have HBW := Lib.hid (HBA.out.trans (hb.mono HBA.out.size))
    clear ho hb
    have p0 := B1.at' 0 _ rfl
    have p1 := B1.at' 1 _ rfl
    by_cases hlt : k < zs.length
    · obtain ⟨b1, o1, rfl, c1⟩ := (Ints.mono H1.out HBW.out).cells (by simp; omega)
      have d1 := c1 k (.int .i64 (zs.getD k 0)) (by simp [hlt])
      have hbd := zone_bd HZO.out hlt
      obtain ⟨f, hf⟩ : ∃ f : Nat, zs.getD k 0 = (f : Int) := Int.eq_ofNat_of_zero_le hbd.1
      obtain ⟨t, ht⟩ : ∃ t : Nat, zEnd x.rings.length zs k = (t : Int) := Int.eq_ofNat_of_zero_le (by omega)
      rw [hf] at d1 hbd
      rw [ht] at hbd
      have HF := Lib.hid hf
      have HT := Lib.hid ht
      clear hf ht c1
      go_wp2_with fail
      refine (zoneEnd_any (t : Int) _ x _ zs k _ (H.out.mono HBW.out) (Ints.mono H1.out HBW.out) hlt HT.out.symm).mono ?_
      rintro e w1 ⟨rfl, hb1⟩
      replace B1 := B1.mono hb1
      replace HBW := Lib.hid (HBW.out.trans (hb1.mono HBW.out.size))
      replace HB := Lib.hid (HB.out.trans (hb1.mono HB.out.size))
      replace HO := Lib.hid (owns_mono HO.out hb1)
      have hz1 := hb1.size
      clear hb1 p0 p1 d1
      have p1 := B1.at' 1 _ rfl
      have l1 : f ≤ t := by omega
      have l2 : t ≤ c := by omega
      have l1' : (f : Int) ≤ (t : Int) := by omega
      have l2' : (t : Int) ≤ (c : Int) := by omega
      have HP1 := Lib.hid p1
      have lr : 0 < x.rings.length := by omega
      obtain ⟨b2, o2, rfl, _⟩ := (HRS.out.mono HBW.out).at lr
      go_wp2_with fail
      go_loopw [8, 11, 29] (fun sv _ iv wr2 => ∃ d : Nat, d ≤ t - f ∧ iv = .int .i64 (d : Int) ∧ sv = .int .i64 (zsum x.rings f (f + d)) ∧ Below w1.heap.size w1 wr2) (fun _ _ iv _ => (t - f) - (intOf iv).toNat)
      case atStart => exact ⟨0, Nat.zero_le _, by go_num, by rw [Nat.add_zero, zsum_self], Below.refl _ _⟩
      case round =>
        obtain ⟨d, hd, rfl, rfl, hb2⟩ := hrel
        have HB2 := Lib.hid hb2
        have hz2 := hb2.size
        clear hb2
        by_cases hdt : d < t - f
        · have hI : f + d < x.rings.length := by omega
          obtain ⟨_, _, e4, hB, d0, d1, d2⟩ := (HRS.out.mono (HBW.out.trans (HB2.out.mono HBW.out.size))).at hI
          cases e4
          rw [show o2 + (f + d) * 3 = o2 + f * 3 + d * 3 by omega] at d0 d1 d2
          have hrk := HOK.out.2.2.1 (f + d) hI
          have gr := rg_at hI
          have hsn := zsum_next (a := f) hI
          have hsb := zsum_bd (a := f) (fun i hi => (HOK.out.2.2.1 i hi).1) d (by omega)
          have hwb := hrk.1
          rw [gr] at hwb hsn
          have HR := Lib.hid hwb
          obtain ⟨⟨q1, q2⟩, ⟨q3, q4⟩, _⟩ := hwb
          obtain ⟨s0, hs0⟩ : ∃ s0, s0 = zsum x.rings f (f + d) := ⟨_, rfl⟩
          rw [← hs0] at hsn hsb ⊢
          have w1' : IntKind.i64.wrap (s0 + wallV x.rings[f + d]) = s0 + wallV x.rings[f + d] := IntWalk.i64_in _ (by unfold wallV; omega)
          have HSN := Lib.hid hsn
          clear hrk gr hsn hsb q1 q2 q3 q4 hs0
          go_wp2_with fail
          have hbA := belowA wr (.cells #[.int .i64 x.rings[f + d].outer, .int .i64 x.rings[f + d].inner, .int .i64 x.rings[f + d].height] 96)
          refine (wall_any x.rings[f + d] _ HR.out).mono ?_
          rintro e w3 ⟨rfl, hb3⟩
          have HB3 := Lib.hid (HB2.out.trans ((hbA.trans (hb3.mono hbA.size)).mono hz2))
          clear hbA hb3
          go_wp2
          go_roundw
          case rel => exact ⟨d + 1, by omega, by go_num, by rw [← Nat.add_assoc, HSN.out], HB3.out⟩
          case measure => simp [intOf]; omega
        · obtain rfl : d = t - f := by omega
          have hft : f + (t - f) = t := by omega
          rw [hft]
          have hsb := zsum_bd (a := f) (fun i hi => (HOK.out.2.2.1 i hi).1) (t - f) (by omega)
          rw [hft] at hsb
          obtain ⟨s0, hs0⟩ : ∃ s0, s0 = zsum x.rings f t := ⟨_, rfl⟩
          rw [← hs0] at hsb ⊢
          obtain ⟨r0, hr0⟩ : ∃ r0, r0 = wallAt x.rings zs k := ⟨_, rfl⟩
          have HN := Lib.hid (show r0 = near s0 ((t : Int) - f) by rw [hr0, hs0]; unfold wallAt; rw [HF.out, HT.out]; rfl)
          have HW := Lib.hid (walls_take x.rings zs hlt)
          rw [← hr0] at HW
          have w1' : IntKind.i64.wrap ((t : Int) - f) = (t : Int) - f := IntWalk.i64_in _ (by omega)
          have HO2 := Lib.hid (owns_mono HO.out HB2.out)
          have HBX := Lib.hid (HB.out.trans (HB2.out.mono HB.out.size))
          have hzx := HBX.out.size
          clear hs0 hr0
          go_wp2_with fail
          refine (nearest_any r0 s0 ((t : Int) - f) _ HN.out (by omega) (by omega) (by omega) (by omega)).mono ?_
          rintro e w4 ⟨rfl, hq⟩
          have hb4 := hq.below wr.heap.size
          replace HO2 := Lib.hid (owns_mono HO2.out hb4)
          replace HBX := Lib.hid (HBX.out.trans (hb4.mono HBX.out.size))
          have hzy := HBX.out.size
          clear hq hb4
          go_wp2_with (at_builtin; refine append_one_at rfl _ _ 22 rfl wA.heap.size 2 (.int .i64 0) 1 8 Tryz.underlying22 info_int rfl (by decide) _ k _ rfl HO2.out [.int .i64 r0] rfl (by simp [Value.oneCell']) w4.heap.size rfl rfl (by omega) (by decide) (by omega) ?_)
          intro a7 c7 w7 ho7 hg7 hb7 _
          have HO7 := Lib.hid ho7
          have HB7 := Lib.hid (HBX.out.trans hb7)
          clear ho7 hg7 hb7
          go_wp2
          go_roundw
          case rel => exact ⟨k + 1, a7, c7, by omega, by go_num, rfl, by rw [HW.out]; simpa using HO7.out, HB7.out⟩
          case measure => simp [intOf]; omega
    · obtain rfl : k = zs.length := by omega
      go_wp2
      go_ret
      exact ⟨_, rfl, OwnInts.mk' (by rw [walls_len]; exact owns_base (by have := HO.out; rw [List.take_of_length_le (by rw [walls_len]; exact Nat.le_refl _)] at this; exact this) HBA.out.size), HBW.out⟩
end Go.Proofs.YtenedpboehkmjaaGreat
/- Partials that a model gives: the plain law. -/
set_option linter.unusedSimpArgs false
set_option linter.unnecessarySimpa false
set_option linter.unusedVariables false
set_option maxRecDepth 100000
namespace Go.Proofs.YtenedpboehkmjaaGreat
open Go.RowKit

/-- The sum of the first weights times walls. -/
def mom (row ws : List Int) : Nat → Int
  | 0 => 0
  | k + 1 => mom row ws k + row.getD k 0 * ws.getD k 0
def rawAt (x : ModD) (p : PrfD) (k : Nat) : Int := near (x.base.getD k 0 * mom (x.weights.getD k []) (walls p.rings x.zones) x.zones.length) (areaV p.rings)
def rawV (x : ModD) (p : PrfD) : List Int := (List.range 5).map (rawAt x p)
theorem near_le {a b m : Int} (ha : 0 ≤ a) (hb : 0 < b) (h : a ≤ m * b) : near a b ≤ m := by
  have h1 := near_mono ha h hb
  have h2 : near (m * b) b = m := by
    rw [near_down (by omega) hb (by rw [Int.mul_emod_left]; omega), Int.mul_ediv_cancel _ (by omega)]
  omega
theorem wallAt_bd {p : PrfD} {zs : List Int} (ok : prfOk p) (zo : zonesOk p.rings.length zs) {k : Nat} (hk : k < zs.length) : 0 ≤ wallAt p.rings zs k ∧ wallAt p.rings zs k ≤ 150000 := by
  obtain ⟨h1, h2, h3⟩ := zone_bd zo hk
  obtain ⟨f, hf⟩ : ∃ f : Nat, zs.getD k 0 = (f : Int) := Int.eq_ofNat_of_zero_le h1
  obtain ⟨t, ht⟩ : ∃ t : Nat, zEnd p.rings.length zs k = (t : Int) := Int.eq_ofNat_of_zero_le (by omega)
  unfold wallAt
  rw [hf, ht] at h2 ⊢
  rw [ht] at h3
  have hb := zsum_bd (a := f) (fun i hi => (ok.2.2.1 i hi).1) (t - f) (by omega)
  rw [show f + (t - f) = t by omega] at hb
  simp only [Int.toNat_natCast]
  exact ⟨near_nonneg hb.1 (by omega), near_le hb.1 (by omega) (by have := hb.2; omega)⟩
theorem walls_at {p : PrfD} {zs : List Int} {k : Nat} (hk : k < zs.length) : (walls p.rings zs).getD k 0 = wallAt p.rings zs k := by
  simp [walls, hk]
theorem mul_bd {a b A B : Int} (ha : 0 ≤ a) (hA : a ≤ A) (hb : 0 ≤ b) (hB : b ≤ B) : 0 ≤ a * b ∧ a * b ≤ A * B :=
  ⟨Int.mul_nonneg ha hb, Int.mul_le_mul hA hB hb (Int.le_trans ha hA)⟩
theorem mom_bd {row ws : List Int} {n : Nat} (hr : ∀ i, i < n → 0 ≤ row.getD i 0 ∧ row.getD i 0 ≤ 1000) (hw : ∀ i, i < n → 0 ≤ ws.getD i 0 ∧ ws.getD i 0 ≤ 150000) : ∀ k, k ≤ n → 0 ≤ mom row ws k ∧ mom row ws k ≤ 150000000 * (k : Int) := by
  intro k
  induction k with
  | zero => intro _; simp [mom]
  | succ k ih =>
    intro hk
    have h1 := ih (by omega)
    have h2 := hr k (by omega)
    have h3 := hw k (by omega)
    have h4 := mul_bd h2.1 h2.2 h3.1 h3.2
    show 0 ≤ mom row ws k + row.getD k 0 * ws.getD k 0 ∧ mom row ws k + row.getD k 0 * ws.getD k 0 ≤ _
    omega
end Go.Proofs.YtenedpboehkmjaaGreat
/- Partials that a model gives: contracts of l08Moment and l08Raw. -/
set_option linter.unusedSimpArgs false
set_option linter.unnecessarySimpa false
set_option linter.unusedVariables false
set_option maxRecDepth 100000
namespace Go.Proofs.YtenedpboehkmjaaGreat
open Go.RowKit

theorem row_bd {x : ModD} (ok : modOk x) {k : Nat} (hk : k < 5) : ∀ i, i < x.zones.length → 0 ≤ (x.weights.getD k []).getD i 0 ∧ (x.weights.getD k []).getD i 0 ≤ 1000 := by
  intro i hi
  obtain ⟨h1, h2, _⟩ := (ok.2.2.2 k hk).1
  have hi' : i < (x.weights.getD k []).length := by omega
  have := h2 _ (List.getElem_mem hi')
  rw [List.getD_eq_getElem?_getD (l := x.weights.getD k []), List.getElem?_eq_getElem hi']
  exact this
set_option maxHeartbeats 2000000 in
theorem l08Moment_any (q o : Nat) (x : ModD) (vw : Value) (ws : List Int) (k : Nat) (w : World) {az cz ag cg ab cb} (h : ModIn w q o x az cz ag cg ab cb) (hw : Ints w vw ws) (ok : modOk x) (hk : k < 5) (hl : ws.length = x.zones.length) (hb : ∀ i, i < x.zones.length → 0 ≤ ws.getD i 0 ∧ ws.getD i 0 ≤ 150000) :
    Calls Tryz.prog 89 #[.pointer (some ⟨q, o, none⟩), vw, .int .i64 (k : Int)] w fun e w' => e = .returned (.int .i64 (mom (x.weights.getD k []) ws x.zones.length)) ∧ Q w w' := by
  have H := Lib.hid h
  have HW := Lib.hid hw
  obtain ⟨aw, cw, rfl, _⟩ := id hw
  have hl8 := ok.1.1.2
  have hk5 : k < x.weights.length := by have := ok.2.1; omega
  have HRB := Lib.hid (row_bd ok hk)
  have HWB := Lib.hid hb
  have HRL := Lib.hid (ok.2.2.2 k hk).1.1
  have HL := Lib.hid hl
  obtain ⟨_, _, e1, hg1, hg2⟩ := h.g.form'
  cases e1
  have hm := ok.2.1
  have hkI : (k : Int) < (x.weights.length : Int) := by omega
  have hw8 : ws.length ≤ 8 := by omega
  clear h hw ok hb hg1 hl hm hg2
  go_enter Tryz.func89, Tryz.ntmps89
  go_wp2_with fail
  go_loopw [7, 8] (fun sv iv wr => ∃ z : Nat, z ≤ ws.length ∧ iv = .int .i64 (z : Int) ∧ sv = .int .i64 (mom (x.weights.getD k []) ws z) ∧ Q w wr) (fun _ iv _ => ws.length - (intOf iv).toNat)
  case atStart => exact ⟨0, Nat.zero_le _, by go_num, rfl, Q.refl _⟩
  case round =>
    obtain ⟨z, hz, rfl, rfl, hq⟩ := hrel
    have HQ := Lib.hid hq
    have HI := Lib.hid (H.out.mono (hq.below w.heap.size))
    have HW2 := Lib.hid (Ints.mono HW.out (hq.below w.heap.size))
    have c1 := HI.out.c1
    have l0 := HI.out.lt
    clear hq
    by_cases hlt : z < ws.length
    · obtain ⟨b3, o3, l3, q3, rfl, hB3, u0, uv⟩ := HI.out.g.at hk5
      have gk : x.weights.getD k [] = x.weights[k] := by rw [List.getD_eq_getElem?_getD, List.getElem?_eq_getElem hk5]; rfl
      have hbd := mom_bd HRB.out HWB.out z (by have := HL.out; omega)
      have hr1 := HRB.out z (by have := HL.out; omega)
      have hw1 := HWB.out z (by have := HL.out; omega)
      have hml := mul_bd hr1.1 hr1.2 hw1.1 hw1.2
      have hrl := HRL.out
      have hnx : mom (x.weights.getD k []) ws (z + 1) = mom (x.weights.getD k []) ws z + (x.weights.getD k []).getD z 0 * ws.getD z 0 := rfl
      obtain ⟨rk, hrk⟩ : ∃ rk, rk = x.weights.getD k [] := ⟨_, rfl⟩
      rw [← hrk] at gk hbd hr1 hml hrl hnx ⊢
      rw [← gk] at u0 uv
      clear gk
      have hzr : z < rk.length := by have := HL.out; omega
      obtain ⟨b7, o7, rfl, c7⟩ := uv.cells (by simp; omega)
      have d7 := c7 z (.int .i64 (rk.getD z 0)) (by simp [hzr])
      obtain ⟨b8, o8, rfl, c8⟩ := HW2.out.cells (by simp; omega)
      have d8 := c8 z (.int .i64 (ws.getD z 0)) (by simp [hlt])
      have lb7 := World.block_lt_of_cell? _ _ d7
      have lb8 := World.block_lt_of_cell? _ _ d8
      simp only at lb7 lb8
      obtain ⟨a0, ha0⟩ : ∃ a0, a0 = rk.getD z 0 := ⟨_, rfl⟩
      obtain ⟨b0, hb0⟩ : ∃ b0, b0 = ws.getD z 0 := ⟨_, rfl⟩
      obtain ⟨s0, hs0⟩ : ∃ s0, s0 = mom rk ws z := ⟨_, rfl⟩
      rw [← ha0] at d7 hml hnx
      rw [← hb0] at d8 hml hnx
      rw [← hs0] at hbd hnx ⊢
      obtain ⟨m0, hm0⟩ : ∃ m0, m0 = a0 * b0 := ⟨_, rfl⟩
      rw [← hm0] at hml hnx
      have w1' : IntKind.i64.wrap (a0 * b0) = m0 := by rw [← hm0]; exact IntWalk.i64_in _ (by omega)
      have w2' : IntKind.i64.wrap (s0 + m0) = s0 + m0 := IntWalk.i64_in _ (by omega)
      have HN := Lib.hid hnx
      have hzI : (z : Int) < (ws.length : Int) := by omega
      have hzI2 : (z : Int) < (rk.length : Int) := by omega
      have hlw : rk.length = ws.length := by have := HL.out; omega
      clear hnx hrk ha0 hb0 hs0 hm0 c7 c8 uv hr1 hw1 hbd hml hrl
      go_wp2
      go_quiet (fail)
      go_wp2
      go_roundw
      case rel => exact ⟨z + 1, by omega, by go_num, by rw [HN.out], HQ.out.drewN _⟩
      case measure => simp [intOf]; omega
    · obtain rfl : z = ws.length := by omega
      have HE := Lib.hid HL.out
      go_wp2
      go_ret
      exact ⟨by rw [← HE.out]; rfl, HQ.out⟩
end Go.Proofs.YtenedpboehkmjaaGreat
/- Partials that a model gives: contract of l08Raw. -/
set_option linter.unusedSimpArgs false
set_option linter.unnecessarySimpa false
set_option linter.unusedVariables false
set_option maxRecDepth 100000
namespace Go.Proofs.YtenedpboehkmjaaGreat
open Go.RowKit

theorem area_bd {p : PrfD} (ok : prfOk p) : 1 ≤ areaV p.rings ∧ areaV p.rings ≤ 90000 := by
  obtain ⟨h1, h2⟩ := lip_bd ok
  obtain ⟨s1, s2⟩ := sq_bd h1 h2
  unfold areaV
  refine ⟨?_, near_le (by omega) (by omega) (by omega)⟩
  have := near_mono (a := 1000000) (b := 1000000) (by omega) s1 (by omega)
  have e : near 1000000 1000000 = 1 := by decide
  omega
theorem raw_take (x : ModD) (p : PrfD) {k : Nat} (h : k < 5) : (rawV x p).take (k + 1) = (rawV x p).take k ++ [rawAt x p k] := by
  rw [List.take_succ_eq_append_getElem (by simp [rawV]; exact h)]
  simp [rawV]
theorem rawV_len (x : ModD) (p : PrfD) : (rawV x p).length = 5 := by simp [rawV]
theorem base_bd {x : ModD} (ok : modOk x) {k : Nat} (hk : k < 5) : 1 ≤ x.base.getD k 0 ∧ x.base.getD k 0 ≤ 1000000000 := (ok.2.2.2 k hk).2
theorem walls_bd {x : ModD} {p : PrfD} (okp : prfOk p) (zo : zonesOk p.rings.length x.zones) : ∀ i, i < x.zones.length → 0 ≤ (walls p.rings x.zones).getD i 0 ∧ (walls p.rings x.zones).getD i 0 ≤ 150000 := fun i hi => by
  rw [walls_at hi]; exact wallAt_bd okp zo hi
theorem momk_bd {x : ModD} {p : PrfD} (ok : modOk x) (okp : prfOk p) (zo : zonesOk p.rings.length x.zones) {k : Nat} (hk : k < 5) : 0 ≤ mom (x.weights.getD k []) (walls p.rings x.zones) x.zones.length ∧ mom (x.weights.getD k []) (walls p.rings x.zones) x.zones.length ≤ 1200000000 := by
  have h := mom_bd (row_bd ok hk) (walls_bd okp zo) x.zones.length (Nat.le_refl _)
  have := ok.1.1.2
  omega

set_option maxHeartbeats 4000000 in
theorem l08Raw_any (q o : Nat) (x : ModD) (q2 o2 : Nat) (p : PrfD) (w : World) {az cz ag cg ab cb} {a : Option Addr} {c : Nat} (hm : ModIn w q o x az cz ag cg ab cb) (hp : PrfIn w q2 o2 p a c) (ok : modOk x) (okp : prfOk p) (zo : zonesOk p.rings.length x.zones) :
    Calls Tryz.prog 66 #[.pointer (some ⟨q, o, none⟩), .pointer (some ⟨q2, o2, none⟩)] w fun e w' => ∃ v, e = .returned v ∧ OwnInts w.heap.size w'.heap.size w' v (rawV x p) ∧ Below w.heap.size w w' := by
  have HM := Lib.hid hm; have HP := Lib.hid hp
  have HK := Lib.hid ok; have HKP := Lib.hid okp; have HZ := Lib.hid zo
  have c0 := hm.c0
  have l0 := hm.lt
  have hbl := ok.2.2.1
  clear hm hp ok okp zo
  go_enter Tryz.func66, Tryz.ntmps66
  go_wp2_with fail
  refine (l08Walls_any q2 o2 p _ x.zones _ HP.out HM.out.z HKP.out HZ.out).mono ?_
  rintro e w1 ⟨v1, rfl, ho1, hb1⟩
  obtain ⟨a1, k1, rfl⟩ := ho1.form
  have F1 := Lib.hid ho1.rd
  have HB1 := Lib.hid hb1
  have hwl := walls_len p.rings x.zones
  have HWL := Lib.hid hwl
  clear ho1 hb1 c0
  obtain ⟨ws, hws⟩ : ∃ ws, ws = walls p.rings x.zones := ⟨_, rfl⟩
  rw [← hws] at F1 HWL ⊢
  have HWS := Lib.hid hws
  clear hws hwl
  have hz1 := HB1.out.size
  go_wp2_with fail
  go_loopw [6, 7] (fun ov iv wr => ∃ (k : Nat) (a' : Option Addr) (c' : Nat), k ≤ 5 ∧ iv = .int .i64 (k : Int) ∧ ov = .slice a' k c' ∧ wr.ownsRow w1.heap.size 2 1 (.slice a' k c') k (((rawV x p).take k).map (Value.int .i64)) ∧ Below w1.heap.size w1 wr) (fun _ iv _ => 5 - (intOf iv).toNat)
  case atStart => exact ⟨0, some ⟨w1.heap.size, 0, none⟩, 0, Nat.zero_le _, by go_num, rfl, by simpa using owns_empty w1 2 1 _ (Nat.le_refl _), by (repeat (first | with_reducible exact Below.refl _ _ | with_reducible exact hbw | (with_reducible refine Below.setCell ?_ ?_ _; rotate_left; · first | exact Nat.le_refl _ | omega | (simp; done) | (simp; omega)) | (with_reducible refine Below.alloc ?_ ?_ _; rotate_left; · first | exact Nat.le_refl _ | omega | (simp; done) | (simp; omega)) | with_reducible refine below_drewN ?_ _ | with_reducible refine Below.drew ?_))⟩
  case round =>
    obtain ⟨k, a', c', hk, rfl, rfl, ho, hc⟩ := hrel
    have HO := Lib.hid ho; have HC := Lib.hid hc
    clear ho hc
    have hz := HC.out.size
    have HBW := Lib.hid (HB1.out.trans (HC.out.mono HB1.out.size))
    by_cases hlt : k < 5
    · have hltI : (k : Int) < 5 := by omega
      have HI := Lib.hid (HM.out.mono HBW.out)
      have HPI := Lib.hid (HP.out.mono HBW.out)
      have HF := Lib.hid (Ints.mono F1.out HC.out)
      have hbd := base_bd HK.out hlt
      have hmd := momk_bd HK.out HKP.out HZ.out hlt
      obtain ⟨had1, had2⟩ := area_bd HKP.out
      have hra : rawAt x p k = near (x.base.getD k 0 * mom (x.weights.getD k []) (walls p.rings x.zones) x.zones.length) (areaV p.rings) := rfl
      rw [← HWS.out] at hmd hra
      have hx2 := HI.out.c2
      have hbN : k < x.base.length := by omega
      obtain ⟨b6, o6, rfl, c6⟩ := HM.out.b.cells (by simp; omega)
      have d6w := c6 k (.int .i64 (x.base.getD k 0)) (by simp [hbN])
      have d6 := cellB HBW.out d6w
      have lb6 := World.block_lt_of_cell? _ _ d6w
      simp only at lb6
      obtain ⟨b0, hb0⟩ : ∃ b0, b0 = x.base.getD k 0 := ⟨_, rfl⟩
      obtain ⟨s0, hs0⟩ : ∃ s0, s0 = mom (x.weights.getD k []) ws x.zones.length := ⟨_, rfl⟩
      obtain ⟨e0, he0⟩ : ∃ e0, e0 = areaV p.rings := ⟨_, rfl⟩
      obtain ⟨r0, hr0⟩ : ∃ r0, r0 = rawAt x p k := ⟨_, rfl⟩
      rw [← hb0] at d6 hbd hra
      rw [← hs0] at hmd hra
      rw [← he0] at had1 had2 hra
      rw [← hr0] at hra
      have HRA := Lib.hid hra
      have HS0 := Lib.hid hs0
      have HE0 := Lib.hid he0
      have HW := Lib.hid (raw_take x p hlt)
      rw [← hr0] at HW
      have hml := mul_bd (by omega : (0 : Int) ≤ b0) hbd.2 hmd.1 hmd.2
      obtain ⟨m0, hm0⟩ : ∃ m0, m0 = b0 * s0 := ⟨_, rfl⟩
      have HM0 := Lib.hid hm0
      rw [← hm0] at hml
      have w1' : IntKind.i64.wrap (b0 * s0) = m0 := by rw [hm0]; exact IntWalk.i64_in _ (by rw [← hm0]; omega)
      have hbI : (k : Int) < (x.base.length : Int) := by omega
      obtain ⟨row, hrow⟩ : ∃ row, row = (Value.slice a' k c').ownBlock := ⟨_, rfl⟩
      have hne : ∀ b, b < w.heap.size → some b ≠ row := fun b hb e => by have := owns_geS HO.out (hrow ▸ e.symm); omega
      have l0' : q < wr.heap.size := by have := HBW.out.size; omega
      have lb6' : b6 < wr.heap.size := by have := HBW.out.size; omega
      have n1 : ∀ y', (ext wr row y').cell? ⟨q, o + 2, none⟩ = some (.slice (some ⟨b6, o6, none⟩) x.base.length cb) := fun y' => (cell?_ext (w := wr) l0' (hne _ l0)).trans hx2
      have n2 : ∀ y', (ext wr row y').cell? ⟨b6, o6 + k, none⟩ = some (.int .i64 b0) := fun y' => (cell?_ext (w := wr) lb6' (hne _ lb6)).trans d6
      have HRow := Lib.hid hrow
      clear hrow hne hra hs0 he0 hb0 hr0 hm0 c6 d6 d6w hx2
      go_wp2_with fail
      refine wp_region_ord [(0, true), (1, true), (2, true), (3, true), (4, true), (5, true), (6, true), (7, true), (8, true), (9, true), (10, true), (13, true), (11, false), (12, true), (14, false), (15, false), (16, false), (17, false), (18, true)] (row) (by kernel_rfl) (by kernel_rfl) ?_
      (repeat (with_reducible refine wpOrd_soft (fun K hK => ?_); simp only [List.getElem?_toArray, List.getElem?_cons_zero, List.getElem?_cons_succ]; first | (go_simp; refine hK _ ?_) | (simp only [undef]; go_simp; refine hK _ ?_); clear hK K))
      (with_reducible refine wpOrd_hard ?_; simp only [List.getElem?_toArray, List.getElem?_cons_zero, List.getElem?_cons_succ])
      go_wp2_with fail
      refine (l08Moment_any q o x _ ws k _ (HI.out.mono (Below.refl _ _).drew) (Ints.mono HF.out (Below.refl _ _).drew) HK.out hlt HWL.out (by rw [HWS.out]; exact walls_bd HKP.out HZ.out)).mono ?_
      rw [← HS0.out]
      rintro e w4 ⟨rfl, hq4⟩
      have hb4 : Below wr.heap.size wr w4 := undrew (hq4.below _)
      clear hq4
      have hz4 := hb4.size
      go_wp2_with fail
      refine ⟨grown_stepS hb4, ?_⟩
      (repeat (with_reducible refine wpOrd_soft (fun K hK => ?_); simp only [List.getElem?_toArray, List.getElem?_cons_zero, List.getElem?_cons_succ]; first | (go_simp; refine hK _ ?_) | (simp only [undef]; go_simp; refine hK _ ?_); clear hK K))
      (with_reducible refine wpOrd_hard ?_; simp only [List.getElem?_toArray, List.getElem?_cons_zero, List.getElem?_cons_succ])
      go_wp2_with fail
      refine (l08Area_any q2 o2 p _ (HPI.out.mono hb4) HKP.out).mono ?_
      rw [← HE0.out]
      rintro e w5 ⟨rfl, rfl⟩
      go_wp2_with fail
      refine ⟨grown_stepS hb4, ?_⟩
      (with_reducible refine wpOrd_hard ?_; simp only [List.getElem?_toArray, List.getElem?_cons_zero, List.getElem?_cons_succ])
      go_wp2_with fail
      refine (l01Div_any r0 m0 e0 _ (by rw [HRA.out, HM0.out]) (by omega) (by omega) (by omega) (by omega)).mono ?_
      rintro e w6 ⟨rfl, rfl⟩
      go_wp2_with fail
      refine ⟨grown_stepS hb4, ?_⟩
      (with_reducible refine wpOrd_hard ?_; simp only [List.getElem?_toArray, List.getElem?_cons_zero, List.getElem?_cons_succ])
      go_wp2_with fail
      refine ⟨grown_transS (grown_stepS hb4) (grown_stepS (belowA _ _)), ?_⟩
      (with_reducible refine wpOrd_hard ?_; simp only [List.getElem?_toArray, List.getElem?_cons_zero, List.getElem?_cons_succ])
      refine append_one_at rfl _ _ 22 rfl w1.heap.size 2 (.int .i64 0) 1 8 Tryz.underlying22 info_int rfl (by decide) _ k _ rfl (owns_mono HO.out hb4) [.int .i64 r0] rfl (by simp [Value.oneCell']) w6.heap.size rfl rfl (by omega) (by decide) (by omega) ?_
      intro a7 c7 w7 ho7 hg7 hb7 _
      have HO7 := Lib.hid ho7
      have HC7 := Lib.hid ((HC.out.trans (hb4.mono HC.out.size)).trans hb7)
      have HG7 := Lib.hid hg7
      clear ho7 hg7 hb7
      refine ⟨by rw [HRow.out]; exact grown_transS (grown_stepS hb4) HG7.out, ?_⟩
      (repeat (with_reducible refine wpOrd_soft (fun K hK => ?_); simp only [List.getElem?_toArray, List.getElem?_cons_zero, List.getElem?_cons_succ]; first | (go_simp; refine hK _ ?_) | (simp only [undef]; go_simp; refine hK _ ?_); clear hK K))
      (with_reducible refine wpOrd_nil ?_); refine NoPanic.normal ?_
      go_wp2
      go_roundw
      case rel => exact ⟨k + 1, a7, c7, by omega, by go_num, rfl, by rw [HW.out]; simpa using HO7.out, HC7.out⟩
      case measure => simp [intOf]; omega
    · obtain rfl : k = 5 := by omega
      go_wp2
      go_ret
      exact ⟨_, rfl, OwnInts.mk' (by rw [rawV_len]; exact owns_base (by have := HO.out; rw [List.take_of_length_le (by rw [rawV_len]; exact Nat.le_refl _)] at this; exact this) HB1.out.size), HBW.out⟩
end Go.Proofs.YtenedpboehkmjaaGreat
/- Weighted walls and partials: contracts of weighted and rawPartials. -/
set_option linter.unusedSimpArgs false
set_option linter.unnecessarySimpa false
set_option linter.unusedVariables false
set_option maxRecDepth 100000
namespace Go.Proofs.YtenedpboehkmjaaGreat
open Go.RowKit

def momAt (x : ModD) (p : PrfD) (k : Nat) : Int := mom (x.weights.getD k []) (walls p.rings x.zones) x.zones.length
def momV (x : ModD) (p : PrfD) : List Int := (List.range 5).map (momAt x p)
theorem momV_len (x : ModD) (p : PrfD) : (momV x p).length = 5 := by simp [momV]
theorem momV_take (x : ModD) (p : PrfD) {k : Nat} (h : k < 5) : (momV x p).take (k + 1) = (momV x p).take k ++ [momAt x p k] := by
  rw [List.take_succ_eq_append_getElem (by simp [momV]; exact h)]
  simp [momV]
theorem momV_at (x : ModD) (p : PrfD) {k : Nat} (h : k < 5) : (momV x p).getD k 0 = momAt x p k := by simp [momV, h]
theorem rawAt_mom (x : ModD) (p : PrfD) (k : Nat) : rawAt x p k = near (x.base.getD k 0 * momAt x p k) (areaV p.rings) := rfl

set_option maxHeartbeats 4000000 in
theorem weighted_any (v vp : Value) (x : ModD) (p : PrfD) (w : World) (h : RdModD w v x) (hp : RdPrf w vp p) (ok : modOk x) (okp : prfOk p) (zo : zonesOk p.rings.length x.zones) :
    Calls Tryz.prog 102 #[v, vp] w fun e w' => ∃ u, e = .returned (.tuple #[u, .int .i64 (areaV p.rings)]) ∧ OwnInts w.heap.size w'.heap.size w' u (momV x p) ∧ Below w.heap.size w w' := by
  have HP := Lib.hid hp
  have HK := Lib.hid ok; have HKP := Lib.hid okp; have HZ := Lib.hid zo
  obtain ⟨vz, vg, vb, rfl, hz, hg, hb⟩ := h
  have HIZ := Lib.hid hz; have HIG := Lib.hid hg; have HIB := Lib.hid hb
  obtain ⟨az, cz, rfl, _⟩ := id hz
  obtain ⟨ag, cg, rfl, hg1, hg2⟩ := hg.form'
  obtain ⟨ab, cb, rfl, _⟩ := id hb
  obtain ⟨lv, rfl, hrr⟩ := hp
  obtain ⟨ar, cr, rfl, _⟩ := id hrr
  have HW5 := Lib.hid ok.2.1
  have hl8 := ok.1.1.2
  clear hz hg hb hrr ok okp zo hg1 hg2
  go_enter Tryz.func102, Tryz.ntmps102
  go_wp2_with fail
  obtain ⟨wA, hA⟩ : ∃ wA, wA = (w.alloc (.cells #[.slice az x.zones.length cz, .slice ag x.weights.length cg, .slice ab x.base.length cb] 38)).alloc (.cells #[.string p.name, .slice ar p.rings.length cr] 42) := ⟨_, rfl⟩
  rw [← hA]
  have HBA := Lib.hid (show Below w.heap.size w wA by rw [hA]; (repeat (first | with_reducible exact Below.refl _ _ | with_reducible exact hbw | (with_reducible refine Below.setCell ?_ ?_ _; rotate_left; · first | exact Nat.le_refl _ | omega | (simp; done) | (simp; omega)) | (with_reducible refine Below.alloc ?_ ?_ _; rotate_left; · first | exact Nat.le_refl _ | omega | (simp; done) | (simp; omega)) | with_reducible refine below_drewN ?_ _ | with_reducible refine Below.drew ?_)))
  have BM := Lib.hid (show Box wA w.heap.size [.slice az x.zones.length cz, .slice ag x.weights.length cg, .slice ab x.base.length cb] by
    rw [hA]; exact (Box.alloc w _ _ _ rfl).mono (belowA _ _))
  have BP := Lib.hid (show Box wA (w.heap.size + 1) [.string p.name, .slice ar p.rings.length cr] by
    rw [hA]; exact Box.alloc _ _ _ _ (by simp))
  clear hA
  refine (zoneWalls_any _ p _ x.zones _ (HP.out.mono HBA.out) (Ints.mono HIZ.out HBA.out) HKP.out HZ.out).mono ?_
  rintro e w1 ⟨v1, rfl, ho1, hb1⟩
  obtain ⟨a1, k1, rfl⟩ := ho1.form
  have F1 := Lib.hid ho1.rd
  have HB1 := Lib.hid (HBA.out.trans (hb1.mono HBA.out.size))
  have BM1 := Lib.hid (BM.out.mono hb1)
  have BP1 := Lib.hid (BP.out.mono hb1)
  have hwl := walls_len p.rings x.zones
  obtain ⟨ws, hws⟩ : ∃ ws, ws = walls p.rings x.zones := ⟨_, rfl⟩
  rw [← hws] at F1 hwl ⊢
  have HWS := Lib.hid hws
  have HWL := Lib.hid hwl
  have hz1 := HB1.out.size
  have m1 := BM1.out.at' 1 _ rfl
  have l1 := BM1.out.lt
  clear hws hwl ho1 hb1
  go_wp2_with fail
  clear m1 l1
  go_loopw [7, 9, 10, 20] (fun ov _ _ iv wr => ∃ (k : Nat) (a' : Option Addr) (c' : Nat), k ≤ 5 ∧ iv = .int .i64 (k : Int) ∧ ov = .slice a' k c' ∧ wr.ownsRow w1.heap.size 2 1 (.slice a' k c') k (((momV x p).take k).map (Value.int .i64)) ∧ Below w1.heap.size w1 wr) (fun _ _ _ iv _ => 5 - (intOf iv).toNat)
  case atStart => exact ⟨0, none, 0, Nat.zero_le _, by go_num, rfl, by simpa using owns_nil _ _ _ _, Below.refl _ _⟩
  case round =>
    obtain ⟨k, a', c', hk, rfl, rfl, ho, hc⟩ := hrel
    have HO := Lib.hid ho; have HC := Lib.hid hc
    clear ho hc
    have hzc := HC.out.size
    by_cases hlt : k < 5
    · have hk5 : k < x.weights.length := by have := HW5.out; omega
      have hkI : (k : Int) < (x.weights.length : Int) := by omega
      obtain ⟨b3, o3, l3, q3, rfl, hB3, u0, uv⟩ := ((HIG.out.mono HB1.out).mono HC.out).at hk5
      have gk : x.weights.getD k [] = x.weights[k] := by rw [List.getD_eq_getElem?_getD, List.getElem?_eq_getElem hk5]; rfl
      have HRB := Lib.hid (row_bd HK.out hlt)
      have HRL := Lib.hid (HK.out.2.2.2 k hlt).1.1
      have HWB := Lib.hid (walls_bd HKP.out HZ.out)
      rw [← HWS.out] at HWB
      have HMA := Lib.hid (show momAt x p k = mom (x.weights.getD k []) ws x.zones.length by rw [HWS.out]; rfl)
      obtain ⟨rk, hrk⟩ : ∃ rk, rk = x.weights.getD k [] := ⟨_, rfl⟩
      rw [← hrk] at gk HRB HRL HMA
      rw [← gk] at u0 uv
      have HUV := Lib.hid uv
      have HF1 := Lib.hid (Ints.mono F1.out HC.out)
      clear gk hrk uv
      go_wp2_with fail
      obtain ⟨wo, rfl⟩ : ∃ wo : World, wo = wr := ⟨_, rfl⟩
      go_loopw [10, 11, 12, 26] (fun sv _ _ iv wi => ∃ z : Nat, z ≤ rk.length ∧ iv = .int .i64 (z : Int) ∧ sv = .int .i64 (mom rk ws z) ∧ wi = wo) (fun _ _ _ iv _ => rk.length - (intOf iv).toNat)
      case atStart => exact ⟨0, Nat.zero_le _, by go_num, rfl, rfl⟩
      case round =>
        obtain ⟨z, hz, rfl, rfl, rfl⟩ := hrel
        by_cases hzr : z < rk.length
        · have hrl := HRL.out
          have hbd := mom_bd HRB.out HWB.out z (by omega)
          have hr1 := HRB.out z (by omega)
          have hw1 := HWB.out z (by omega)
          have hml := mul_bd hr1.1 hr1.2 hw1.1 hw1.2
          have hnx : mom rk ws (z + 1) = mom rk ws z + rk.getD z 0 * ws.getD z 0 := rfl
          have hzw : z < ws.length := by have := HWL.out; omega
          have hzI : (z : Int) < (ws.length : Int) := by omega
          have hzI2 : (z : Int) < (rk.length : Int) := by omega
          obtain ⟨b7, o7, rfl, c7⟩ := HUV.out.cells (by simp; omega)
          have d7 := c7 z (.int .i64 (rk.getD z 0)) (by simp [hzr])
          obtain ⟨b8, o8, rfl, c8⟩ := HF1.out.cells (by simp; omega)
          have d8 := c8 z (.int .i64 (ws.getD z 0)) (by simp [hzw])
          obtain ⟨a0, ha0⟩ : ∃ a0, a0 = rk.getD z 0 := ⟨_, rfl⟩
          obtain ⟨b0, hb0⟩ : ∃ b0, b0 = ws.getD z 0 := ⟨_, rfl⟩
          obtain ⟨s0, hs0⟩ : ∃ s0, s0 = mom rk ws z := ⟨_, rfl⟩
          rw [← ha0] at d7 hml hnx
          rw [← hb0] at d8 hml hnx
          rw [← hs0] at hbd hnx ⊢
          obtain ⟨m0, hm0⟩ : ∃ m0, m0 = a0 * b0 := ⟨_, rfl⟩
          rw [← hm0] at hml hnx
          have w1' : IntKind.i64.wrap (a0 * b0) = m0 := by rw [← hm0]; exact IntWalk.i64_in _ (by omega)
          have w2' : IntKind.i64.wrap (s0 + m0) = s0 + m0 := IntWalk.i64_in _ (by omega)
          have HN := Lib.hid hnx
          have hr8 : rk.length ≤ 8 := by omega
          clear hnx ha0 hb0 hs0 hm0 c7 c8 hr1 hw1 hbd hml hrl
          go_wp2
          go_roundw
          case rel => exact ⟨z + 1, by omega, by go_num, by rw [HN.out], trivial⟩
          case measure => simp [intOf]; omega
        · obtain rfl : z = rk.length := by omega
          obtain ⟨s0, hs0⟩ : ∃ s0, s0 = mom rk ws rk.length := ⟨_, rfl⟩
          rw [← hs0]
          have HW := Lib.hid (momV_take x p hlt)
          rw [HMA.out, ← HRL.out, ← hs0] at HW
          clear hs0
          go_wp2_with (at_builtin; refine append_one_at rfl _ _ 22 rfl w1.heap.size 2 (.int .i64 0) 1 8 Tryz.underlying22 info_int rfl (by decide) _ k _ rfl HO.out [.int .i64 s0] rfl (by simp [Value.oneCell']) wr.heap.size rfl rfl (by omega) (by decide) (by omega) ?_)
          intro a7 c7 w7 ho7 hg7 hb7 _
          have HO7 := Lib.hid ho7
          have HB7 := Lib.hid (HC.out.trans hb7)
          clear ho7 hg7 hb7
          go_wp2
          go_roundw
          case rel => exact ⟨k + 1, a7, c7, by omega, by go_num, rfl, by rw [HW.out]; simpa using HO7.out, HB7.out⟩
          case measure => simp [intOf]; omega
    · obtain rfl : k = 5 := by omega
      have hw5 := HW5.out
      have hHO := HO.out
      rw [List.take_of_length_le (by rw [momV_len]; exact Nat.le_refl _)] at hHO
      have HO5 := Lib.hid hHO
      clear hHO
      have HBW := Lib.hid (HB1.out.trans (HC.out.mono HB1.out.size))
      have BP2 := Lib.hid (BP1.out.mono (HC.out))
      have p0 := BP2.out.at' 0 _ rfl
      have p1 := BP2.out.at' 1 _ rfl
      have l1 := BP2.out.lt
      have hld := lip_bd HKP.out
      obtain ⟨d, hd⟩ : ∃ d, d = lipV p.rings := ⟨_, rfl⟩
      rw [← hd] at hld
      obtain ⟨s1, s2⟩ := sq_bd hld.1 hld.2
      have w1' : IntKind.i64.wrap (d * d) = d * d := IntWalk.i64_in _ (by omega)
      have HD := Lib.hid hd
      have HAR := Lib.hid (show areaV p.rings = near (d * d) 1000000 by rw [hd]; rfl)
      clear hd hld
      go_wp2_with fail
      refine wp_region_ord [(0, true), (1, true), (3, true), (2, false), (4, false), (5, true), (6, false), (7, true), (8, true)] (none) (by kernel_rfl) (by kernel_rfl) ?_
      (repeat (with_reducible refine wpOrd_soft (fun K hK => ?_); simp only [List.getElem?_toArray, List.getElem?_cons_zero, List.getElem?_cons_succ]; first | (go_simp; refine hK _ ?_) | (simp only [undef]; go_simp; refine hK _ ?_); clear hK K))
      (with_reducible refine wpOrd_hard ?_; simp only [List.getElem?_toArray, List.getElem?_cons_zero, List.getElem?_cons_succ])
      go_wp2_with fail
      refine (lip_any _ p _ ((HP.out.mono HBW.out).mono (Below.refl _ _).drew) HKP.out).mono ?_
      rw [← HD.out]
      rintro e w3 ⟨rfl, hb3⟩
      have hb3 : Below wr.heap.size wr w3 := undrew hb3
      go_wp2_with fail
      refine ⟨grown_of_below hb3, ?_⟩
      (repeat (with_reducible refine wpOrd_soft (fun K hK => ?_); simp only [List.getElem?_toArray, List.getElem?_cons_zero, List.getElem?_cons_succ]; first | (go_simp; refine hK _ ?_) | (simp only [undef]; go_simp; refine hK _ ?_); clear hK K))
      (with_reducible refine wpOrd_hard ?_; simp only [List.getElem?_toArray, List.getElem?_cons_zero, List.getElem?_cons_succ])
      go_wp2_with fail
      refine (lip_any _ p _ ((HP.out.mono HBW.out).mono hb3) HKP.out).mono ?_
      rw [← HD.out]
      rintro e w4 ⟨rfl, hb4⟩
      have hb4 : Below wr.heap.size wr w4 := hb3.trans (hb4.mono hb3.size)
      go_wp2_with fail
      refine ⟨grown_of_below hb4, ?_⟩
      (repeat (with_reducible refine wpOrd_soft (fun K hK => ?_); simp only [List.getElem?_toArray, List.getElem?_cons_zero, List.getElem?_cons_succ]; first | (go_simp; refine hK _ ?_) | (simp only [undef]; go_simp; refine hK _ ?_); clear hK K))
      (with_reducible refine wpOrd_hard ?_; simp only [List.getElem?_toArray, List.getElem?_cons_zero, List.getElem?_cons_succ])
      go_wp2_with fail
      refine (nearest_any _ (d * d) 1000000 _ HAR.out (by omega) (by omega) (by omega) (by omega)).mono ?_
      rintro e w5 ⟨rfl, hq5⟩
      have hb5 : Below wr.heap.size wr w5 := hb4.trans ((hq5.below _).mono hb4.size)
      obtain ⟨ar0, har0⟩ : ∃ ar0, ar0 = areaV p.rings := ⟨_, rfl⟩
      rw [← har0]
      have HAR0 := Lib.hid har0
      clear har0
      go_wp2_with fail
      refine ⟨grown_of_below hb5, ?_⟩
      (repeat (with_reducible refine wpOrd_soft (fun K hK => ?_); simp only [List.getElem?_toArray, List.getElem?_cons_zero, List.getElem?_cons_succ]; first | (go_simp; refine hK _ ?_) | (simp only [undef]; go_simp; refine hK _ ?_); clear hK K))
      (with_reducible refine wpOrd_nil ?_); refine NoPanic.normal ?_
      have HO6 := Lib.hid (owns_mono HO5.out hb5)
      have HBX := Lib.hid (HBW.out.trans (hb5.mono HBW.out.size))
      clear hb3 hb4 hq5 hb5 p0 p1 l1 s1 s2 w1'
      go_wp2
      go_ret2
      exact ⟨_, by rw [HAR0.out]; rfl, OwnInts.mk' (by rw [momV_len]; exact owns_base HO6.out HB1.out.size), HBX.out⟩

set_option maxHeartbeats 4000000 in
theorem rawPartials_any (v vp : Value) (x : ModD) (p : PrfD) (w : World) (h : RdModD w v x) (hp : RdPrf w vp p) (ok : modOk x) (okp : prfOk p) (zo : zonesOk p.rings.length x.zones) :
    Calls Tryz.prog 76 #[v, vp] w fun e w' => ∃ u, e = .returned u ∧ OwnInts w.heap.size w'.heap.size w' u (rawV x p) ∧ Below w.heap.size w w' := by
  have HM := Lib.hid h
  have HP := Lib.hid hp
  have HK := Lib.hid ok; have HKP := Lib.hid okp; have HZ := Lib.hid zo
  obtain ⟨vz, vg, vb, rfl, hz, hg, hb⟩ := h
  have HIB := Lib.hid hb
  obtain ⟨az, cz, rfl, _⟩ := id hz
  obtain ⟨ag, cg, rfl, hg1, hg2⟩ := hg.form'
  obtain ⟨ab, cb, rfl, _⟩ := id hb
  obtain ⟨lv, rfl, hrr⟩ := hp
  obtain ⟨ar, cr, rfl, _⟩ := id hrr
  have HBL := Lib.hid ok.2.2.1
  clear hz hg hb hrr ok okp zo hg1 hg2
  go_enter Tryz.func76, Tryz.ntmps76
  go_wp2_with fail
  obtain ⟨wA, hA⟩ : ∃ wA, wA = (w.alloc (.cells #[.slice az x.zones.length cz, .slice ag x.weights.length cg, .slice ab x.base.length cb] 38)).alloc (.cells #[.string p.name, .slice ar p.rings.length cr] 42) := ⟨_, rfl⟩
  rw [← hA]
  have HBA := Lib.hid (show Below w.heap.size w wA by rw [hA]; (repeat (first | with_reducible exact Below.refl _ _ | with_reducible exact hbw | (with_reducible refine Below.setCell ?_ ?_ _; rotate_left; · first | exact Nat.le_refl _ | omega | (simp; done) | (simp; omega)) | (with_reducible refine Below.alloc ?_ ?_ _; rotate_left; · first | exact Nat.le_refl _ | omega | (simp; done) | (simp; omega)) | with_reducible refine below_drewN ?_ _ | with_reducible refine Below.drew ?_)))
  have BM := Lib.hid (show Box wA w.heap.size [.slice az x.zones.length cz, .slice ag x.weights.length cg, .slice ab x.base.length cb] by
    rw [hA]; exact (Box.alloc w _ _ _ rfl).mono (belowA _ _))
  clear hA
  refine (weighted_any _ _ x p _ (HM.out.mono HBA.out) (HP.out.mono HBA.out) HK.out HKP.out HZ.out).mono ?_
  rintro e w1 ⟨v1, rfl, ho1, hb1⟩
  have hml := momV_len x p
  have HMB := Lib.hid (fun k (h : k < 5) => (show 0 ≤ (momV x p).getD k 0 ∧ (momV x p).getD k 0 ≤ 1200000000 by rw [momV_at x p h]; exact momk_bd HK.out HKP.out HZ.out h))
  have HMR := Lib.hid (fun k (h : k < 5) => (show rawAt x p k = near (x.base.getD k 0 * (momV x p).getD k 0) (areaV p.rings) by rw [momV_at x p h]; rfl))
  obtain ⟨a1, k1, rfl⟩ := ho1.form
  have F1 := Lib.hid ho1.rd
  obtain ⟨ms, hms⟩ : ∃ ms, ms = momV x p := ⟨_, rfl⟩
  obtain ⟨e0, he0⟩ : ∃ e0, e0 = areaV p.rings := ⟨_, rfl⟩
  obtain ⟨had1, had2⟩ := area_bd HKP.out
  rw [← hms] at F1 hml HMB HMR ⊢
  rw [← he0] at HMR had1 had2 ⊢
  have HML := Lib.hid hml
  have HB1 := Lib.hid (HBA.out.trans (hb1.mono HBA.out.size))
  have BM1 := Lib.hid (BM.out.mono hb1)
  have hz1 := HB1.out.size
  clear hms he0 ho1 hb1
  go_wp2_with fail
  go_loopw [7, 8, 9, 18] (fun ov _ _ iv wr => ∃ (k : Nat) (a' : Option Addr) (c' : Nat), k ≤ 5 ∧ iv = .int .i64 (k : Int) ∧ ov = .slice a' k c' ∧ wr.ownsRow w1.heap.size 2 1 (.slice a' k c') k (((rawV x p).take k).map (Value.int .i64)) ∧ Below w1.heap.size w1 wr) (fun _ _ _ iv _ => 5 - (intOf iv).toNat)
  case atStart => exact ⟨0, none, 0, Nat.zero_le _, by go_num, rfl, by simpa using owns_nil _ _ _ _, Below.refl _ _⟩
  case round =>
    obtain ⟨k, a', c', hk, rfl, rfl, ho, hc⟩ := hrel
    have HO := Lib.hid ho; have HC := Lib.hid hc
    clear ho hc
    have hzc := HC.out.size
    by_cases hlt : k < 5
    · have hkm : k < ms.length := by omega
      have hkI : (k : Int) < (ms.length : Int) := by omega
      have hbN : k < x.base.length := by have := HBL.out; omega
      have hbI : (k : Int) < (x.base.length : Int) := by omega
      have BM2 := Lib.hid (BM1.out.mono HC.out)
      have m2 := BM2.out.at' 2 _ rfl
      have l2 := BM2.out.lt
      obtain ⟨b8, o8, rfl, c8⟩ := (Ints.mono F1.out HC.out).cells (by simp; omega)
      have d8 := c8 k (.int .i64 (ms.getD k 0)) (by simp [hkm])
      obtain ⟨b6, o6, rfl, c6⟩ := (Ints.mono HIB.out (HB1.out.trans (HC.out.mono HB1.out.size))).cells (by simp; omega)
      have d6 := c6 k (.int .i64 (x.base.getD k 0)) (by simp [hbN])
      have hbd := base_bd HK.out hlt
      have hmd := HMB.out k hlt
      have hra := HMR.out k hlt
      obtain ⟨b0, hb0⟩ : ∃ b0, b0 = x.base.getD k 0 := ⟨_, rfl⟩
      obtain ⟨s0, hs0⟩ : ∃ s0, s0 = ms.getD k 0 := ⟨_, rfl⟩
      obtain ⟨r0, hr0⟩ : ∃ r0, r0 = rawAt x p k := ⟨_, rfl⟩
      rw [← hb0] at d6 hbd hra
      rw [← hs0] at d8 hmd hra
      rw [← hr0] at hra
      have HRA := Lib.hid hra
      have HW := Lib.hid (raw_take x p hlt)
      rw [← hr0] at HW
      have hmlx := mul_bd (by omega : (0 : Int) ≤ b0) hbd.2 hmd.1 hmd.2
      obtain ⟨m0, hm0⟩ : ∃ m0, m0 = b0 * s0 := ⟨_, rfl⟩
      have HM0 := Lib.hid hm0
      rw [← hm0] at hmlx
      have w1' : IntKind.i64.wrap (b0 * s0) = m0 := by rw [hm0]; exact IntWalk.i64_in _ (by rw [← hm0]; omega)
      clear hra hb0 hs0 hr0 hm0 c6 c8
      go_wp2_with fail
      refine (nearest_any r0 m0 e0 _ (by rw [HRA.out, HM0.out]) (by omega) (by omega) (by omega) (by omega)).mono ?_
      rintro e w4 ⟨rfl, hq⟩
      have hb4 := hq.below wr.heap.size
      have HO2 := Lib.hid (owns_mono HO.out hb4)
      have HBX := Lib.hid (HC.out.trans (hb4.mono HC.out.size))
      have hzy := HBX.out.size
      clear hq hb4
      go_wp2_with (at_builtin; refine append_one_at rfl _ _ 22 rfl w1.heap.size 2 (.int .i64 0) 1 8 Tryz.underlying22 info_int rfl (by decide) _ k _ rfl HO2.out [.int .i64 r0] rfl (by simp [Value.oneCell']) w4.heap.size rfl rfl (by omega) (by decide) (by omega) ?_)
      intro a7 c7 w7 ho7 hg7 hb7 _
      have HO7 := Lib.hid ho7
      have HB7 := Lib.hid (HBX.out.trans hb7)
      clear ho7 hg7 hb7
      go_wp2
      go_roundw
      case rel => exact ⟨k + 1, a7, c7, by omega, by go_num, rfl, by rw [HW.out]; simpa using HO7.out, HB7.out⟩
      case measure => simp [intOf]; omega
    · obtain rfl : k = 5 := by omega
      have hHO := HO.out
      rw [List.take_of_length_le (by rw [rawV_len]; exact Nat.le_refl _)] at hHO
      have HO5 := Lib.hid hHO
      clear hHO
      have HBX := Lib.hid (HB1.out.trans (HC.out.mono HB1.out.size))
      go_wp2
      go_ret
      exact ⟨_, rfl, OwnInts.mk' (by rw [rawV_len]; exact owns_base HO5.out HB1.out.size), HBX.out⟩
end Go.Proofs.YtenedpboehkmjaaGreat
