/- Contracts of the touch of a key of both packages, and of TouchOf. -/
import Derived.Test.YtijhlllajddlpaaOneAct
import Derived.Test.YtijhlllajddlpaaChain
set_option linter.unusedSimpArgs false
set_option linter.unnecessarySimpa false
set_option linter.unusedVariables false
set_option maxRecDepth 100000
namespace Go.Proofs.Ytijhlllajddlpaa
open Go.RowKit

def heave (ls : List Lev) (u : Int) : Int := chain 1000000000000 ls.reverse u
theorem heave_in {ls : List Lev} {u : Int} (h : armsOk ls) (h0 : 0 ≤ u) (h1 : u ≤ 1000000000000) : heave ls u = -1 ∨ (0 ≤ heave ls u ∧ heave ls u ≤ 1000000000000) := chain_in _ _ h.rev h0 h1

theorem ret_tup2 {a c : Int} {b d : Bool} (h : a = c) (k : b = d) : Ending.returned (.tuple #[.int .i64 a, .bool b]) = .returned (.tuple #[.int .i64 c, .bool d]) := by rw [h, k]
theorem ret_tup2i {a b c d : Int} (h : a = c) (k : b = d) : Ending.returned (.tuple #[.int .i64 a, .int .i64 b]) = .returned (.tuple #[.int .i64 c, .int .i64 d]) := by rw [h, k]
/-- What a box of four cells, laid first of all, holds later on. -/
theorem agg4 {w w1 : World} {a b c d : Value} {t : TypeId} (hb : Below (w.alloc (.cells #[a, b, c, d] t)).heap.size (w.alloc (.cells #[a, b, c, d] t)) w1) :
    w1.cell? ⟨w.heap.size, 0, none⟩ = some a ∧ w1.cell? ⟨w.heap.size, 1, none⟩ = some b ∧ w1.cell? ⟨w.heap.size, 2, none⟩ = some c ∧ w1.cell? ⟨w.heap.size, 3, none⟩ = some d :=
  ⟨cellB hb (by simp [go_sem]), cellB hb (by simp [go_sem]), cellB hb (by simp [go_sem]), cellB hb (by simp [go_sem])⟩

set_option maxHeartbeats 1000000 in
theorem touch_any (o p : Int) (r : Bool) (v lv : Value) (x : ActD) (w : World) (h : Acc w v lv x) (ho : o = heave x.levs x.weight) (hp : p = if o < 0 then 0 else o) (hr : r = decide (0 ≤ o)) (ok : armsOk x.levs) (h0 : 0 ≤ x.weight) (h1 : x.weight ≤ 1000000000000) :
    Calls Try.prog 31 #[v] w fun e w' => e = .returned (.tuple #[.int .i64 p, .bool r]) ∧ Below w.heap.size w w' := by
  obtain ⟨rfl, hlv⟩ := h
  obtain ⟨a, ca, rfl, hca, hcm, _⟩ := id hlv
  have hm : x.levs.length ≤ maxLen := by omega
  clear hca hcm
  unfold maxLen at hm
  have ok := Lib.hid ok
  have HO := Lib.hid ho; clear ho
  have HP := Lib.hid hp; clear hp
  have HR := Lib.hid hr; clear hr
  go_enter Try.func31, Try.ntmps31
  go_wp2_with fail
  go_loopw [4, 5] (fun v i wr => ∃ (k : Nat) (z n : Int), k ≤ x.levs.length ∧ z = (k : Int) - 1 ∧ i = .int .i64 z ∧ v = .int .i64 n ∧ 0 ≤ n ∧ n ≤ 1000000000000 ∧ o = chain 1000000000000 (x.levs.take k).reverse n ∧ wr.cell? ⟨w.heap.size, 1, none⟩ = some (.slice a x.levs.length ca) ∧ Below w.heap.size w wr) (fun _ i _ => (intOf i + 1).toNat)
  case atStart => exact ⟨x.levs.length, _, x.weight, Nat.le_refl _, rfl, rfl, rfl, h0, h1, by rw [HO.out, List.take_length]; rfl, by simp [go_sem], by (repeat (first | with_reducible exact Below.refl _ _ | with_reducible exact hbw | (with_reducible refine Below.setCell ?_ ?_ _; rotate_left; · first | exact Nat.le_refl _ | omega | (simp; done) | (simp; omega)) | (with_reducible refine Below.alloc ?_ ?_ _; rotate_left; · first | exact Nat.le_refl _ | omega | (simp; done) | (simp; omega)) | with_reducible refine below_drewN ?_ _ | with_reducible refine Below.drew ?_))⟩
  case round =>
    obtain ⟨k, z, n, hk, hz, rfl, rfl, hn0, hn1, ho, u1, hb⟩ := hrel
    have HC := Lib.hid ho; clear ho
    rcases k with _ | j
    · obtain rfl : z = -1 := by omega
      clear hz
      have E := Lib.hid (show o = n by rw [HC.out]; rfl)
      go_wp2
      go_ret2
      exact ⟨ret_tup2 (by rw [HP.out, E.out, if_neg (by omega)]) (by rw [HR.out, E.out]; simpa using hn0), hb⟩
    · obtain rfl : z = (j : Int) := by omega
      clear hz
      have hlt : j < x.levs.length := by omega
      obtain ⟨b1, o1, rfl, hB1, d0, d1⟩ := (hlv.mono hb).at hlt
      obtain ⟨⟨f1, f2⟩, f3⟩ := ok.out.at hlt
      obtain ⟨f4, f5⟩ := mul_bd hn0 hn1 f3 (by omega)
      have w1' : IntKind.i64.wrap (n * x.levs[j].out) = n * x.levs[j].out := IntWalk.i64_in _ (by omega)
      obtain ⟨v, hv⟩ : ∃ v, v = near (n * x.levs[j].out) x.levs[j].inn := ⟨_, rfl⟩
      have v0 : 0 ≤ v := by rw [hv]; exact near_nonneg f4 (by omega)
      have HV := Lib.hid hv; clear hv
      have HN := Lib.hid (chain_take (M := 1000000000000) hlt n)
      rw [← HV.out] at HN
      go_wp2_with fail
      go_quiet ((go_at_call 48; exact quiet_q (nearest_any v _ _ _ HV.out (by omega) (by omega) (by omega) (by omega))))
      clear w1'
      by_cases g : 1000000000000 < v
      · have d : decide (1000000000000 < v) = true := by simpa using g
        have E := Lib.hid (show o = -1 by rw [HC.out, HN.out, if_pos g])
        go_wp2
        go_ret2
        exact ⟨ret_tup2 (by rw [HP.out, E.out]; rfl) (by rw [HR.out, E.out]; rfl), below_drewN hb _⟩
      · have d : decide (1000000000000 < v) = false := by simpa using g
        go_wp2
        go_roundw
        case rel => exact ⟨j, _, v, by omega, rfl, rfl, rfl, v0, by omega, by rw [HC.out, HN.out, if_neg g], u1, below_drewN hb _⟩
        case measure => simp [intOf] <;> omega

def touchOfV (x : ActD) : Int := if validActB x then (if heave x.levs x.weight < 0 then 0 else heave x.levs x.weight) else 0
def touchOfC (x : ActD) : Int := if validActB x then (if heave x.levs x.weight < 0 then 6 else 0) else 1
theorem validActB_iff {x : ActD} : validActB x = true ↔ ActOk x := by simp [validActB]

set_option maxHeartbeats 1000000 in
theorem implTouchOf_any (v : Value) (x : ActD) (w : World) (h : RdAct w v x) (_ : x.ok) (_ : x.levs.length ≤ 1048576) :
    Calls Try.prog 14 #[v] w fun e w' => e = .returned (.tuple #[.int .i64 (touchOfV x), .int .i64 (touchOfC x)]) ∧ Below w.heap.size w w' := by
  obtain ⟨lv, rfl, hlv⟩ := h
  unfold touchOfV touchOfC
  by_cases g : ActOk x
  · have g' := validActB_iff.2 g
    have G := Lib.hid g
    obtain ⟨f0, f1⟩ := g.weight
    clear g
    rw [g']
    obtain ⟨o, ho⟩ : ∃ o, o = heave x.levs x.weight := ⟨_, rfl⟩
    rw [← ho]
    have HO := Lib.hid ho; clear ho
    go_enter Try.func14, Try.ntmps14
    go_wp2_with fail
    refine (implValidAct_any _ lv x _ ⟨rfl, hlv.mono (by (repeat (first | with_reducible exact Below.refl _ _ | with_reducible exact hbw | (with_reducible refine Below.setCell ?_ ?_ _; rotate_left; · first | exact Nat.le_refl _ | omega | (simp; done) | (simp; omega)) | (with_reducible refine Below.alloc ?_ ?_ _; rotate_left; · first | exact Nat.le_refl _ | omega | (simp; done) | (simp; omega)) | with_reducible refine below_drewN ?_ _ | with_reducible refine Below.drew ?_)))⟩).mono ?_
    rw [g']
    rintro e w1 ⟨rfl, hb⟩
    have hbw : Below w.heap.size w w1 := Below.trans (by (repeat (first | with_reducible exact Below.refl _ _ | with_reducible exact hbw | (with_reducible refine Below.setCell ?_ ?_ _; rotate_left; · first | exact Nat.le_refl _ | omega | (simp; done) | (simp; omega)) | (with_reducible refine Below.alloc ?_ ?_ _; rotate_left; · first | exact Nat.le_refl _ | omega | (simp; done) | (simp; omega)) | with_reducible refine below_drewN ?_ _ | with_reducible refine Below.drew ?_))) (hb.mono (by simp <;> omega))
    obtain ⟨y0, y1, y2, y3⟩ := agg4 (w := w) hb
    by_cases g : o < 0
    · have d : decide (o < 0) = true := by simpa using g
      go_wp2_with fail
      refine (touch_any o 0 false _ lv x _ ⟨rfl, hlv.mono hbw⟩ HO.out (by rw [if_pos g]) (noB (by omega)) G.out.arms f0 (by omega)).mono ?_
      rintro e w2 ⟨rfl, hb2⟩
      have hbw := hbw.trans (hb2.mono hbw.size)
      go_wp2
      go_ret2
      exact ⟨ret_tup2i (by first | rfl | (split <;> omega) | omega) (by first | rfl | (split <;> omega) | omega), hbw⟩
    · have d : decide (o < 0) = false := by simpa using g
      go_wp2_with fail
      refine (touch_any o o true _ lv x _ ⟨rfl, hlv.mono hbw⟩ HO.out (by rw [if_neg (by omega)]) (yesB (by omega)) G.out.arms f0 (by omega)).mono ?_
      rintro e w2 ⟨rfl, hb2⟩
      have hbw := hbw.trans (hb2.mono hbw.size)
      go_wp2
      go_ret2
      exact ⟨ret_tup2i (by first | rfl | (split <;> omega) | omega) (by first | rfl | (split <;> omega) | omega), hbw⟩
  · have g' : validActB x = false := by rw [← Bool.not_eq_true, validActB_iff]; exact g
    clear g
    rw [g']
    go_enter Try.func14, Try.ntmps14
    go_wp2_with fail
    refine (implValidAct_any _ lv x _ ⟨rfl, hlv.mono (by (repeat (first | with_reducible exact Below.refl _ _ | with_reducible exact hbw | (with_reducible refine Below.setCell ?_ ?_ _; rotate_left; · first | exact Nat.le_refl _ | omega | (simp; done) | (simp; omega)) | (with_reducible refine Below.alloc ?_ ?_ _; rotate_left; · first | exact Nat.le_refl _ | omega | (simp; done) | (simp; omega)) | with_reducible refine below_drewN ?_ _ | with_reducible refine Below.drew ?_)))⟩).mono ?_
    rw [g']
    rintro e w1 ⟨rfl, hb⟩
    have hbw : Below w.heap.size w w1 := Below.trans (by (repeat (first | with_reducible exact Below.refl _ _ | with_reducible exact hbw | (with_reducible refine Below.setCell ?_ ?_ _; rotate_left; · first | exact Nat.le_refl _ | omega | (simp; done) | (simp; omega)) | (with_reducible refine Below.alloc ?_ ?_ _; rotate_left; · first | exact Nat.le_refl _ | omega | (simp; done) | (simp; omega)) | with_reducible refine below_drewN ?_ _ | with_reducible refine Below.drew ?_))) (hb.mono (by simp <;> omega))
    go_wp2
    go_ret2
    exact ⟨rfl, hbw⟩

end Go.Proofs.Ytijhlllajddlpaa
