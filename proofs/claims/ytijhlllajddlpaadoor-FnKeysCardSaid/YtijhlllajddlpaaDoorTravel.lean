/- Contracts of TravelFor of both packages. -/
import Derived.Test.YtijhlllajddlpaaDoorMotion
set_option linter.unusedSimpArgs false
set_option linter.unnecessarySimpa false
set_option linter.unusedVariables false
set_option maxRecDepth 100000
namespace Go.Proofs.YtijhlllajddlpaaDoor
open Go.RowKit

/-- The travel t brings the clapper far enough, and no lever goes too far. -/
def hitAt (x : ActD) (g : Int) (t : Nat) : Prop := g ≤ mot x t ∧ mot x t ≠ -1
instance (x : ActD) (g : Int) : DecidablePred (hitAt x g) := fun t => by unfold hitAt; infer_instance
def travelI (x : ActD) (g : Int) : Int := firstIdx (hitAt x g) (List.range 100001)
theorem travel_none {x : ActD} {g : Int} (h : ∀ i : Nat, i < 100001 → ¬ hitAt x g i) : travelI x g = -1 := firstIdx_none fun i hi => by
  rw [List.getElem_range]; exact h i (by simpa using hi)
theorem travel_some {x : ActD} {g : Int} {k : Nat} (hk : k < 100001) (h : ∀ i : Nat, i < k → ¬ hitAt x g i) (hp : hitAt x g k) : travelI x g = k := firstIdx_some (by simpa using hk) (fun i hi hik => by
  rw [List.getElem_range]; exact h i hik) (by rw [List.getElem_range]; exact hp)

theorem mot_low {x : ActD} {t : Int} (ok : armsOk x.levs) : mot x t = -1 ∨ 0 ≤ mot x t := chain_low _ _ ok (by omega)
theorem mot_mono {x : ActD} {s t : Int} (ok : armsOk x.levs) (h : s ≤ t) : mot x t = -1 ∨ (mot x s ≠ -1 ∧ mot x s ≤ mot x t) := chain_mono _ _ _ ok (by omega) (by omega)

theorem lt_step' {p : Nat → Prop} {k : Nat} (h : ∀ i : Nat, i < k → ¬ p i) (hp : ¬ p k) : ∀ i : Nat, i < k + 1 → ¬ p i := fun i hi => by
  by_cases e : i = k
  · rw [e]; exact hp
  · exact h i (by omega)
/-- All below low are too small; all from high on (below the end) reach the goal or go too far. -/
structure Srch (x : ActD) (g : Int) (low high : Nat) : Prop where
  le : low ≤ high
  top : high ≤ 100000
  small : ∀ i : Nat, i < low → mot x i ≠ -1 ∧ mot x i < g
  great : high < 100000 → mot x high < 0 ∨ g ≤ mot x high
theorem Srch.up {x : ActD} {g : Int} {low high m : Nat} (ok : armsOk x.levs) (h : Srch x g low high) (hm : m < high) (h1 : ¬ mot x m < 0) (h2 : mot x m < g) : Srch x g (m + 1) high :=
  ⟨by omega, h.top, fun i hi => by have := mot_mono (x := x) (s := i) (t := m) ok (by omega); omega, h.great⟩
theorem Srch.down {x : ActD} {g : Int} {low high m : Nat} (h : Srch x g low high) (hm : low ≤ m) (hmh : m < high) (h1 : mot x m < 0 ∨ g ≤ mot x m) : Srch x g low m :=
  ⟨hm, by have := h.top; omega, h.small, fun _ => h1⟩
theorem Srch.no {x : ActD} {g : Int} {k : Nat} (ok : armsOk x.levs) (h : Srch x g k k) (h1 : mot x k < g) : travelI x g = -1 := by
  refine travel_none fun i hi ⟨a, b⟩ => ?_
  by_cases h2 : i < k
  · have := h.small i h2; omega
  · have h3 := mot_mono (x := x) (s := k) (t := i) ok (by omega)
    by_cases h4 : k < 100000
    · have := h.great h4
      have := mot_low (x := x) (t := k) ok
      omega
    · have := h.top
      have : i = k := by omega
      subst this; omega
theorem Srch.yes {x : ActD} {g : Int} {k : Nat} (h : Srch x g k k) (hg : 0 ≤ g) (h1 : ¬ mot x k < g) : travelI x g = k :=
  travel_some (by have := h.top; omega) (fun i hi ⟨a, b⟩ => by have := h.small i hi; omega) ⟨by omega, by omega⟩

def goalOk (g : Int) : Prop := 0 ≤ g ∧ g ≤ 1000000
instance (t : Int) : Decidable (goalOk t) := by unfold goalOk; infer_instance
def travelV (x : ActD) (g : Int) : Int := if validActB x then (if goalOk g then (if travelI x g < 0 then 0 else travelI x g) else 0) else 0
def travelC (x : ActD) (g : Int) : Int := if validActB x then (if goalOk g then (if travelI x g < 0 then 3 else 0) else 2) else 1

theorem travel_hit {x : ActD} {g : Int} {k : Nat} (hx : validActB x = true) (hg : goalOk g) (h : travelI x g = k) : (k : Int) = travelV x g ∧ (0 : Int) = travelC x g := by
  unfold travelV travelC; rw [hx, if_pos rfl, if_pos rfl, if_pos hg, if_pos hg, h, if_neg (by omega), if_neg (by omega)]; exact ⟨rfl, rfl⟩
theorem travel_miss {x : ActD} {g : Int} (hx : validActB x = true) (hg : goalOk g) (h : travelI x g = -1) : (0 : Int) = travelV x g ∧ (3 : Int) = travelC x g := by
  unfold travelV travelC; rw [hx, if_pos rfl, if_pos rfl, if_pos hg, if_pos hg, h]; exact ⟨rfl, rfl⟩
theorem travel_rng {x : ActD} {g : Int} (hx : validActB x = true) (hg : ¬ goalOk g) : (0 : Int) = travelV x g ∧ (2 : Int) = travelC x g := by
  unfold travelV travelC; rw [hx, if_pos rfl, if_pos rfl, if_neg hg, if_neg hg]; exact ⟨rfl, rfl⟩
theorem travel_inv {x : ActD} {g : Int} (hx : validActB x = false) : (0 : Int) = travelV x g ∧ (1 : Int) = travelC x g := by
  unfold travelV travelC; rw [hx]; exact ⟨rfl, rfl⟩
theorem ret2 {a b c d : Int} (h : a = c ∧ b = d) : Ending.returned (.tuple #[.int .i64 a, .int .i64 b]) = .returned (.tuple #[.int .i64 c, .int .i64 d]) := by rw [h.1, h.2]

set_option maxHeartbeats 1000000 in
theorem implTravelFor_any (v : Value) (x : ActD) (g : Int) (w : World) (h : RdAct w v x) (_ : x.ok) (_ : x.levs.length ≤ 1048576) (_ : I64 g) :
    Calls Tryd.prog 17 #[v, .int .i64 g] w fun e w' => e = .returned (.tuple #[.int .i64 (travelV x g), .int .i64 (travelC x g)]) ∧ Below w.heap.size w w' := by
  obtain ⟨lv, rfl, hlv⟩ := h
  by_cases gx : ActOk x
  · have g' := validActB_iff.2 gx
    have G := Lib.hid gx
    have GV := Lib.hid g'
    clear gx
    by_cases gt : goalOk g
    · obtain ⟨f0, f1⟩ := id gt
      have GT := Lib.hid gt; clear gt
      go_enter Tryd.func17, Tryd.ntmps17
      go_wp2_with fail
      refine (implValidAct_any _ lv x _ ⟨rfl, hlv.mono (by (repeat (first | with_reducible exact Below.refl _ _ | with_reducible exact hbw | (with_reducible refine Below.setCell ?_ ?_ _; rotate_left; · first | exact Nat.le_refl _ | omega | (simp; done) | (simp; omega)) | (with_reducible refine Below.alloc ?_ ?_ _; rotate_left; · first | exact Nat.le_refl _ | omega | (simp; done) | (simp; omega)) | with_reducible refine below_drewN ?_ _ | with_reducible refine Below.drew ?_)))⟩).mono ?_
      rw [g']
      rintro e w1 ⟨rfl, hb⟩
      have hbw : Below w.heap.size w w1 := Below.trans (by (repeat (first | with_reducible exact Below.refl _ _ | with_reducible exact hbw | (with_reducible refine Below.setCell ?_ ?_ _; rotate_left; · first | exact Nat.le_refl _ | omega | (simp; done) | (simp; omega)) | (with_reducible refine Below.alloc ?_ ?_ _; rotate_left; · first | exact Nat.le_refl _ | omega | (simp; done) | (simp; omega)) | with_reducible refine below_drewN ?_ _ | with_reducible refine Below.drew ?_))) (hb.mono (by simp <;> omega))
      obtain ⟨y0, y1, y2, y3⟩ := agg4 (w := w) hb
      clear hb
      go_wp2_with fail
      refine (within_any true _ _ _ _ (yesB GT.out)).mono ?_
      rintro e w2 ⟨rfl, rfl⟩
      go_wp2_with fail
      go_loopw [6, 7, 8] (fun t _ _ wr => ∃ k : Nat, k ≤ 100001 ∧ t = .int .i64 k ∧ (∀ i : Nat, i < k → ¬ hitAt x g i) ∧ ActIn wr w.heap.size 0 lv x ∧ Below w.heap.size w wr) (fun t _ _ _ => 100001 - (intOf t).toNat)
      case atStart => exact ⟨0, by omega, rfl, fun i hi => by omega, ⟨y0, y1, y2, y3, hlv.mono hbw⟩, hbw⟩
      case round =>
        obtain ⟨k, hk, rfl, hN, hA, hb⟩ := hrel
        obtain ⟨u0, u1, u2, u3, u4⟩ := id hA
        have HN := Lib.hid hN; clear hN
        have HA := Lib.hid hA; clear hA
        by_cases hlt : k ≤ 100000
        · obtain ⟨q, hq⟩ : ∃ q, q = mot x k := ⟨_, rfl⟩
          have HQ := Lib.hid hq; clear hq
          go_wp2_with fail
          refine (isTravel_any true _ _ (yesB ⟨by omega, by omega⟩)).mono ?_
          rintro e w2 ⟨rfl, rfl⟩
          by_cases q0 : q < 0
          · go_wp2_with fail
            refine (motion_any q 0 false _ lv x _ _ ⟨rfl, u4⟩ HQ.out (by rw [if_pos q0]) (noB (by omega)) G.out.arms G.out.slack (by omega) (by omega)).mono ?_
            rintro e w2 ⟨rfl, hb2⟩
            have hb1 := hb.trans (hb2.mono hb.size)
            have HA1 := Lib.hid (HA.out.mono hb2)
            clear hb2
            go_wp2
            go_roundw
            case rel => exact ⟨k + 1, by omega, by go_num, lt_step' HN.out (fun h => by have := mot_low (x := x) (t := k) G.out.arms; rw [HQ.out] at q0; have := h.2; omega), HA1.out, hb1⟩
            case measure => simp [intOf] <;> omega
          · go_wp2_with fail
            refine (motion_any q q true _ lv x _ _ ⟨rfl, u4⟩ HQ.out (by rw [if_neg (by omega)]) (yesB (by omega)) G.out.arms G.out.slack (by omega) (by omega)).mono ?_
            rintro e w2 ⟨rfl, hb2⟩
            have hb1 := hb.trans (hb2.mono hb.size)
            have HA1 := Lib.hid (HA.out.mono hb2)
            clear hb2
            by_cases q1 : g ≤ q
            · have d1 : decide (g ≤ q) = true := by simpa using q1
              have E := Lib.hid (show travelI x g = k from (travel_some (by omega) HN.out ⟨by rw [← HQ.out]; exact q1, by rw [← HQ.out]; omega⟩))
              go_wp2
              go_ret2
              exact ⟨ret2 (travel_hit GV.out GT.out E.out), hb1⟩
            · have d1 : decide (g ≤ q) = false := by simpa using q1
              go_wp2
              go_roundw
              case rel => exact ⟨k + 1, by omega, by go_num, lt_step' HN.out (fun h => by have := h.1; rw [← HQ.out] at this; omega), HA1.out, hb1⟩
              case measure => simp [intOf] <;> omega
        · obtain rfl : k = 100001 := by omega
          have E := Lib.hid (show travelI x g = -1 from (travel_none HN.out))
          go_wp2_with fail
          refine (isTravel_any false _ _ (noB (fun h => by have := h.2; omega))).mono ?_
          rintro e w2 ⟨rfl, rfl⟩
          go_wp2
          go_ret2
          exact ⟨ret2 (travel_miss GV.out GT.out E.out), hb⟩
    · have GT := Lib.hid gt; clear gt
      go_enter Tryd.func17, Tryd.ntmps17
      go_wp2_with fail
      refine (implValidAct_any _ lv x _ ⟨rfl, hlv.mono (by (repeat (first | with_reducible exact Below.refl _ _ | with_reducible exact hbw | (with_reducible refine Below.setCell ?_ ?_ _; rotate_left; · first | exact Nat.le_refl _ | omega | (simp; done) | (simp; omega)) | (with_reducible refine Below.alloc ?_ ?_ _; rotate_left; · first | exact Nat.le_refl _ | omega | (simp; done) | (simp; omega)) | with_reducible refine below_drewN ?_ _ | with_reducible refine Below.drew ?_)))⟩).mono ?_
      rw [g']
      rintro e w1 ⟨rfl, hb⟩
      have hbw : Below w.heap.size w w1 := Below.trans (by (repeat (first | with_reducible exact Below.refl _ _ | with_reducible exact hbw | (with_reducible refine Below.setCell ?_ ?_ _; rotate_left; · first | exact Nat.le_refl _ | omega | (simp; done) | (simp; omega)) | (with_reducible refine Below.alloc ?_ ?_ _; rotate_left; · first | exact Nat.le_refl _ | omega | (simp; done) | (simp; omega)) | with_reducible refine below_drewN ?_ _ | with_reducible refine Below.drew ?_))) (hb.mono (by simp <;> omega))
      clear hb
      go_wp2_with fail
      refine (within_any false _ _ _ _ (noB GT.out)).mono ?_
      rintro e w2 ⟨rfl, rfl⟩
      go_wp2
      go_ret2
      exact ⟨ret2 (travel_rng GV.out GT.out), hbw⟩
  · have g' : validActB x = false := by rw [← Bool.not_eq_true, validActB_iff]; exact gx
    have GV := Lib.hid g'
    clear gx
    go_enter Tryd.func17, Tryd.ntmps17
    go_wp2_with fail
    refine (implValidAct_any _ lv x _ ⟨rfl, hlv.mono (by (repeat (first | with_reducible exact Below.refl _ _ | with_reducible exact hbw | (with_reducible refine Below.setCell ?_ ?_ _; rotate_left; · first | exact Nat.le_refl _ | omega | (simp; done) | (simp; omega)) | (with_reducible refine Below.alloc ?_ ?_ _; rotate_left; · first | exact Nat.le_refl _ | omega | (simp; done) | (simp; omega)) | with_reducible refine below_drewN ?_ _ | with_reducible refine Below.drew ?_)))⟩).mono ?_
    rw [g']
    rintro e w1 ⟨rfl, hb⟩
    have hbw : Below w.heap.size w w1 := Below.trans (by (repeat (first | with_reducible exact Below.refl _ _ | with_reducible exact hbw | (with_reducible refine Below.setCell ?_ ?_ _; rotate_left; · first | exact Nat.le_refl _ | omega | (simp; done) | (simp; omega)) | (with_reducible refine Below.alloc ?_ ?_ _; rotate_left; · first | exact Nat.le_refl _ | omega | (simp; done) | (simp; omega)) | with_reducible refine below_drewN ?_ _ | with_reducible refine Below.drew ?_))) (hb.mono (by simp <;> omega))
    go_wp2
    go_ret2
    exact ⟨ret2 (travel_inv GV.out), hbw⟩

end Go.Proofs.YtijhlllajddlpaaDoor
