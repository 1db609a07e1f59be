/- Contracts of the motion of a clapper of both packages, MotionAt and TravelFor. -/
import Derived.Test.YtijhlllajddlpaaDoorTouch
set_option linter.unusedSimpArgs false
set_option linter.unnecessarySimpa false
set_option linter.unusedVariables false
set_option maxRecDepth 100000
namespace Go.Proofs.YtijhlllajddlpaaDoor
open Go.RowKit

/-- The way of the clapper for a travel t, -1 if it becomes too great. -/
def mot (x : ActD) (t : Int) : Int := chain 1000000 x.levs (max 0 (t - x.slack))

set_option maxHeartbeats 1000000 in
theorem motion_any (o p : Int) (r : Bool) (v lv : Value) (x : ActD) (t : Int) (w : World) (h : Acc w v lv x) (ho : o = mot x t) (hp : p = if o < 0 then 0 else o) (hr : r = decide (0 ≤ o)) (ok : armsOk x.levs) (hs : slackOk x.slack) (h0 : 0 ≤ t) (h1 : t ≤ 100000) :
    Calls Tryd.prog 42 #[v, .int .i64 t] w fun e w' => e = .returned (.tuple #[.int .i64 p, .bool r]) ∧ Below w.heap.size w w' := by
  obtain ⟨rfl, hlv⟩ := h
  obtain ⟨a, ca, rfl, hca, hcm, _⟩ := id hlv
  have hm : x.levs.length ≤ maxLen := by omega
  clear hca hcm
  unfold maxLen at hm
  obtain ⟨s0, s1⟩ := hs
  have ok := Lib.hid ok
  have HO := Lib.hid ho; clear ho
  have HP := Lib.hid hp; clear hp
  have HR := Lib.hid hr; clear hr
  by_cases hst : x.slack < t
  · go_enter Tryd.func42, Tryd.ntmps42
    go_wp2_with fail
    go_loopw [6, 17, 8] (fun v i _ wr => ∃ (k : Nat) (n : Int), k ≤ x.levs.length ∧ i = .int .i64 k ∧ v = .int .i64 n ∧ 0 ≤ n ∧ n ≤ 1000000 ∧ o = chain 1000000 (x.levs.drop k) n ∧ Below w.heap.size w wr) (fun _ i _ _ => x.levs.length - (intOf i).toNat)
    case atStart => exact ⟨0, _, Nat.zero_le _, rfl, rfl, by omega, by omega, by rw [HO.out]; unfold mot; congr 1; omega, by (repeat (first | with_reducible exact Below.refl _ _ | with_reducible exact hbw | (with_reducible refine Below.setCell ?_ ?_ _; rotate_left; · first | exact Nat.le_refl _ | omega | (simp; done) | (simp; omega)) | (with_reducible refine Below.alloc ?_ ?_ _; rotate_left; · first | exact Nat.le_refl _ | omega | (simp; done) | (simp; omega)) | with_reducible refine below_drewN ?_ _ | with_reducible refine Below.drew ?_))⟩
    case round =>
      obtain ⟨k, n, hk, rfl, rfl, hn0, hn1, ho, hb⟩ := hrel
      have HC := Lib.hid ho; clear ho
      by_cases hlt : k < x.levs.length
      · obtain ⟨b1, o1, rfl, hB1, d0, d1⟩ := (hlv.mono hb).at hlt
        obtain ⟨⟨f1, f2⟩, f3⟩ := ok.out.at hlt
        obtain ⟨f4, f5⟩ := mul_bd hn0 hn1 f3 (by omega)
        obtain ⟨v, hv⟩ : ∃ v, v = near (n * x.levs[k].out) x.levs[k].inn := ⟨_, rfl⟩
        have v0 : 0 ≤ v := by rw [hv]; exact near_nonneg f4 (by omega)
        have HV := Lib.hid hv; clear hv
        have HN := Lib.hid (chain_drop (M := 1000000) hlt n)
        rw [← HV.out] at HN
        go_wp2_with fail
        refine (nearest_any v _ _ _ HV.out (by omega) (by omega) (by omega) (by omega)).mono ?_
        rintro e w2 ⟨rfl, nq, rfl⟩
        have hb3 : Below w.heap.size w _ := hb.trans (Below.mono (B := wr.heap.size) (belowA wr (.cells #[.int .i64 x.levs[k].inn, .int .i64 x.levs[k].out] 54)) hb.size)
        by_cases g : 1000000 < v
        · have d : decide (1000000 < v) = true := by simpa using g
          have E := Lib.hid (show o = -1 by rw [HC.out, HN.out, if_pos g])
          go_wp2
          go_ret2
          exact ⟨ret_tup2 (by rw [HP.out, E.out]; rfl) (by rw [HR.out, E.out]; rfl), below_drewN hb3 _⟩
        · have d : decide (1000000 < v) = false := by simpa using g
          go_wp2
          go_roundw
          case rel => exact ⟨k + 1, v, by omega, by go_num, rfl, v0, by omega, by rw [HC.out, HN.out, if_neg (by omega)], below_drewN hb3 _⟩
          case measure => simp [intOf] <;> omega
      · have E := Lib.hid (show o = n by rw [HC.out, chain_end (by omega)])
        go_wp2
        go_ret2
        exact ⟨ret_tup2 (by rw [HP.out, E.out, if_neg (by omega)]) (by rw [HR.out, E.out]; simpa using hn0), hb⟩
  · go_enter Tryd.func42, Tryd.ntmps42
    go_wp2_with fail
    go_loopw [6, 17, 8] (fun v i _ wr => ∃ (k : Nat) (n : Int), k ≤ x.levs.length ∧ i = .int .i64 k ∧ v = .int .i64 n ∧ 0 ≤ n ∧ n ≤ 1000000 ∧ o = chain 1000000 (x.levs.drop k) n ∧ Below w.heap.size w wr) (fun _ i _ _ => x.levs.length - (intOf i).toNat)
    case atStart => exact ⟨0, _, Nat.zero_le _, rfl, rfl, by omega, by omega, by rw [HO.out]; unfold mot; congr 1; omega, by (repeat (first | with_reducible exact Below.refl _ _ | with_reducible exact hbw | (with_reducible refine Below.setCell ?_ ?_ _; rotate_left; · first | exact Nat.le_refl _ | omega | (simp; done) | (simp; omega)) | (with_reducible refine Below.alloc ?_ ?_ _; rotate_left; · first | exact Nat.le_refl _ | omega | (simp; done) | (simp; omega)) | with_reducible refine below_drewN ?_ _ | with_reducible refine Below.drew ?_))⟩
    case round =>
      obtain ⟨k, n, hk, rfl, rfl, hn0, hn1, ho, hb⟩ := hrel
      have HC := Lib.hid ho; clear ho
      by_cases hlt : k < x.levs.length
      · obtain ⟨b1, o1, rfl, hB1, d0, d1⟩ := (hlv.mono hb).at hlt
        obtain ⟨⟨f1, f2⟩, f3⟩ := ok.out.at hlt
        obtain ⟨f4, f5⟩ := mul_bd hn0 hn1 f3 (by omega)
        obtain ⟨v, hv⟩ : ∃ v, v = near (n * x.levs[k].out) x.levs[k].inn := ⟨_, rfl⟩
        have v0 : 0 ≤ v := by rw [hv]; exact near_nonneg f4 (by omega)
        have HV := Lib.hid hv; clear hv
        have HN := Lib.hid (chain_drop (M := 1000000) hlt n)
        rw [← HV.out] at HN
        go_wp2_with fail
        refine (nearest_any v _ _ _ HV.out (by omega) (by omega) (by omega) (by omega)).mono ?_
        rintro e w2 ⟨rfl, nq, rfl⟩
        have hb3 : Below w.heap.size w _ := hb.trans (Below.mono (B := wr.heap.size) (belowA wr (.cells #[.int .i64 x.levs[k].inn, .int .i64 x.levs[k].out] 54)) hb.size)
        by_cases g : 1000000 < v
        · have d : decide (1000000 < v) = true := by simpa using g
          have E := Lib.hid (show o = -1 by rw [HC.out, HN.out, if_pos g])
          go_wp2
          go_ret2
          exact ⟨ret_tup2 (by rw [HP.out, E.out]; rfl) (by rw [HR.out, E.out]; rfl), below_drewN hb3 _⟩
        · have d : decide (1000000 < v) = false := by simpa using g
          go_wp2
          go_roundw
          case rel => exact ⟨k + 1, v, by omega, by go_num, rfl, v0, by omega, by rw [HC.out, HN.out, if_neg (by omega)], below_drewN hb3 _⟩
          case measure => simp [intOf] <;> omega
      · have E := Lib.hid (show o = n by rw [HC.out, chain_end (by omega)])
        go_wp2
        go_ret2
        exact ⟨ret_tup2 (by rw [HP.out, E.out, if_neg (by omega)]) (by rw [HR.out, E.out]; simpa using hn0), hb⟩

/-- A travel of a key. -/
def trOk (t : Int) : Prop := 0 ≤ t ∧ t ≤ 100000
instance (t : Int) : Decidable (trOk t) := by unfold trOk; infer_instance
def motionAtV (x : ActD) (t : Int) : Int := if validActB x then (if trOk t then (if mot x t < 0 then 0 else mot x t) else 0) else 0
def motionAtC (x : ActD) (t : Int) : Int := if validActB x then (if trOk t then (if mot x t < 0 then 6 else 0) else 2) else 1

theorem isTravel_any (b : Bool) (n : Int) (w : World) (h : b = decide (trOk n)) :
    Calls Tryd.prog 41 #[.int .i64 n] w fun e w' => e = .returned (.bool b) ∧ w' = w := by
  have H := Lib.hid h; clear h
  go_enter Tryd.func41, Tryd.ntmps41
  go_wp2_with (go_at_call 40; refine (within_any b _ _ _ _ H.out).mono ?_; rintro e w' ⟨rfl, rfl⟩)
  go_ret
  exact ⟨rfl, rfl⟩

set_option maxHeartbeats 1000000 in
theorem implMotionAt_any (v : Value) (x : ActD) (t : Int) (w : World) (h : RdAct w v x) (_ : x.ok) (_ : x.levs.length ≤ 1048576) (_ : I64 t) :
    Calls Tryd.prog 20 #[v, .int .i64 t] w fun e w' => e = .returned (.tuple #[.int .i64 (motionAtV x t), .int .i64 (motionAtC x t)]) ∧ Below w.heap.size w w' := by
  obtain ⟨lv, rfl, hlv⟩ := h
  unfold motionAtV motionAtC
  by_cases g : ActOk x
  · have g' := validActB_iff.2 g
    have G := Lib.hid g
    clear g
    rw [g']
    by_cases gt : trOk t
    · rw [if_pos rfl, if_pos rfl, if_pos gt, if_pos gt]
      obtain ⟨f0, f1⟩ := id gt
      have GT := Lib.hid gt; clear gt
      obtain ⟨o, ho⟩ : ∃ o, o = mot x t := ⟨_, rfl⟩
      rw [← ho]
      have HO := Lib.hid ho; clear ho
      go_enter Tryd.func20, Tryd.ntmps20
      go_wp2_with fail
      refine (implValidAct_any _ lv x _ ⟨rfl, hlv.mono (by (repeat (first | with_reducible exact Below.refl _ _ | with_reducible exact hbw | (with_reducible refine Below.setCell ?_ ?_ _; rotate_left; · first | exact Nat.le_refl _ | omega | (simp; done) | (simp; omega)) | (with_reducible refine Below.alloc ?_ ?_ _; rotate_left; · first | exact Nat.le_refl _ | omega | (simp; done) | (simp; omega)) | with_reducible refine below_drewN ?_ _ | with_reducible refine Below.drew ?_)))⟩).mono ?_
      rw [g']
      rintro e w1 ⟨rfl, hb⟩
      have hbw : Below w.heap.size w w1 := Below.trans (by (repeat (first | with_reducible exact Below.refl _ _ | with_reducible exact hbw | (with_reducible refine Below.setCell ?_ ?_ _; rotate_left; · first | exact Nat.le_refl _ | omega | (simp; done) | (simp; omega)) | (with_reducible refine Below.alloc ?_ ?_ _; rotate_left; · first | exact Nat.le_refl _ | omega | (simp; done) | (simp; omega)) | with_reducible refine below_drewN ?_ _ | with_reducible refine Below.drew ?_))) (hb.mono (by simp <;> omega))
      obtain ⟨y0, y1, y2, y3⟩ := agg4 (w := w) hb
      clear hb
      go_wp2_with fail
      refine (isTravel_any true _ _ (yesB GT.out)).mono ?_
      rintro e w2 ⟨rfl, rfl⟩
      by_cases g : o < 0
      · have d : decide (o < 0) = true := by simpa using g
        go_wp2_with fail
        refine (motion_any o 0 false _ lv x _ _ ⟨rfl, hlv.mono hbw⟩ HO.out (by rw [if_pos g]) (noB (by omega)) G.out.arms G.out.slack f0 (by omega)).mono ?_
        rintro e w2 ⟨rfl, hb2⟩
        have hbw := hbw.trans (hb2.mono hbw.size)
        go_wp2
        go_ret2
        exact ⟨ret_tup2i (by first | rfl | (split <;> omega)) (by first | rfl | (split <;> omega)), hbw⟩
      · have d : decide (o < 0) = false := by simpa using g
        go_wp2_with fail
        refine (motion_any o o true _ lv x _ _ ⟨rfl, hlv.mono hbw⟩ HO.out (by rw [if_neg (by omega)]) (yesB (by omega)) G.out.arms G.out.slack f0 (by omega)).mono ?_
        rintro e w2 ⟨rfl, hb2⟩
        have hbw := hbw.trans (hb2.mono hbw.size)
        go_wp2
        go_ret2
        exact ⟨ret_tup2i (by first | rfl | (split <;> omega)) (by first | rfl | (split <;> omega)), hbw⟩
    · rw [if_pos rfl, if_pos rfl, if_neg gt, if_neg gt]
      have GT := Lib.hid gt; clear gt
      go_enter Tryd.func20, Tryd.ntmps20
      go_wp2_with fail
      refine (implValidAct_any _ lv x _ ⟨rfl, hlv.mono (by (repeat (first | with_reducible exact Below.refl _ _ | with_reducible exact hbw | (with_reducible refine Below.setCell ?_ ?_ _; rotate_left; · first | exact Nat.le_refl _ | omega | (simp; done) | (simp; omega)) | (with_reducible refine Below.alloc ?_ ?_ _; rotate_left; · first | exact Nat.le_refl _ | omega | (simp; done) | (simp; omega)) | with_reducible refine below_drewN ?_ _ | with_reducible refine Below.drew ?_)))⟩).mono ?_
      rw [g']
      rintro e w1 ⟨rfl, hb⟩
      have hbw : Below w.heap.size w w1 := Below.trans (by (repeat (first | with_reducible exact Below.refl _ _ | with_reducible exact hbw | (with_reducible refine Below.setCell ?_ ?_ _; rotate_left; · first | exact Nat.le_refl _ | omega | (simp; done) | (simp; omega)) | (with_reducible refine Below.alloc ?_ ?_ _; rotate_left; · first | exact Nat.le_refl _ | omega | (simp; done) | (simp; omega)) | with_reducible refine below_drewN ?_ _ | with_reducible refine Below.drew ?_))) (hb.mono (by simp <;> omega))
      clear hb
      go_wp2_with fail
      refine (isTravel_any false _ _ (noB GT.out)).mono ?_
      rintro e w2 ⟨rfl, rfl⟩
      go_wp2
      go_ret2
      exact ⟨rfl, hbw⟩
  · have g' : validActB x = false := by rw [← Bool.not_eq_true, validActB_iff]; exact g
    clear g
    rw [g']
    go_enter Tryd.func20, Tryd.ntmps20
    go_wp2_with fail
    refine (implValidAct_any _ lv x _ ⟨rfl, hlv.mono (by (repeat (first | with_reducible exact Below.refl _ _ | with_reducible exact hbw | (with_reducible refine Below.setCell ?_ ?_ _; rotate_left; · first | exact Nat.le_refl _ | omega | (simp; done) | (simp; omega)) | (with_reducible refine Below.alloc ?_ ?_ _; rotate_left; · first | exact Nat.le_refl _ | omega | (simp; done) | (simp; omega)) | with_reducible refine below_drewN ?_ _ | with_reducible refine Below.drew ?_)))⟩).mono ?_
    rw [g']
    rintro e w1 ⟨rfl, hb⟩
    have hbw : Below w.heap.size w w1 := Below.trans (by (repeat (first | with_reducible exact Below.refl _ _ | with_reducible exact hbw | (with_reducible refine Below.setCell ?_ ?_ _; rotate_left; · first | exact Nat.le_refl _ | omega | (simp; done) | (simp; omega)) | (with_reducible refine Below.alloc ?_ ?_ _; rotate_left; · first | exact Nat.le_refl _ | omega | (simp; done) | (simp; omega)) | with_reducible refine below_drewN ?_ _ | with_reducible refine Below.drew ?_))) (hb.mono (by simp <;> omega))
    go_wp2
    go_ret2
    exact ⟨rfl, hbw⟩

end Go.Proofs.YtijhlllajddlpaaDoor
