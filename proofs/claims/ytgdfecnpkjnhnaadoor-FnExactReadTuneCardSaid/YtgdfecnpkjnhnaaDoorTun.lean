/- Contracts of the laws' helpers over one tune: copy, equality, size, marks. -/
import Derived.Test.YtgdfecnpkjnhnaaDoorTonM
set_option linter.unusedSimpArgs false
set_option linter.unnecessarySimpa false
set_option linter.unusedVariables false
namespace Go.Proofs.YtgdfecnpkjnhnaaDoor
open Go.RowKit

structure TunD where
  name : ByteArray
  tones : List Ton
  deriving DecidableEq

theorem TunD.ext_iff' (x y : TunD) : x = y ↔ x.name = y.name ∧ x.tones = y.tones := by cases x; cases y; simp [TunD.mk.injEq]

theorem str_inj {a b : ByteArray} (h : a.toList = b.toList) : a = b := by
  rw [ByteArray.toList_eq, ByteArray.toList_eq] at h
  cases a; cases b; simp only at h
  congr 1
  exact Array.toList_inj.1 h
theorem str_beq (a b : ByteArray) : (a.toList == b.toList) = decide (a = b) := by
  by_cases h : a = b
  · subst h; simp
  · have : a.toList ≠ b.toList := fun e => h (str_inj e)
    simp [h, this]

theorem tun_true {x y : TunD} (h1 : x.name = y.name) (h2 : x.tones = y.tones) : true = decide (x = y) := by
  symm; apply decide_eq_true; rw [TunD.ext_iff']; exact ⟨h1, h2⟩
theorem tun_false {x y : TunD} (h : ¬ (x.name = y.name ∧ x.tones = y.tones)) : false = decide (x = y) := by
  symm; apply decide_eq_false; rw [TunD.ext_iff']; exact h

/-- All numbers of a tune are int64; its name is no longer than a string can be. -/
def TunD.ok (x : TunD) : Prop := x.name.size ≤ maxLen ∧ ∀ l ∈ x.tones, I64 l.note ∧ I64 l.start ∧ I64 l.len

/-- v is a tune that reads as x, its tones lying at lv. -/
def Tun (w : World) (v : Value) (lv : Value) (x : TunD) : Prop := v = .agg #[.string x.name, lv] ∧ Tons w lv x.tones

theorem Tun.mono {w w' : World} {v lv : Value} {x : TunD} (h : Tun w v lv x) (hb : Below w.heap.size w w') : Tun w' v lv x := ⟨h.1, h.2.mono hb⟩

/-- What is left of a size. -/
def leftTun (left : Int) (x : TunD) : Int := if left < x.name.size + x.tones.length then -1 else left - x.name.size - x.tones.length

set_option maxHeartbeats 400000 in
theorem szTun_any (v lv : Value) (x : TunD) (left : Int) (w : World) (h : Tun w v lv x) (hn : x.name.size ≤ maxLen) (h0 : 0 ≤ left) (hl : left ≤ 1048576) :
    Calls Tryd.prog 12 #[v, .int .i64 left] w fun e w' => e = .returned (.int .i64 (leftTun left x)) ∧ Below w.heap.size w w' := by
  obtain ⟨rfl, hlv⟩ := h
  obtain ⟨a, cap, rfl, hn', hc, _⟩ := id hlv
  unfold maxLen at hn
  by_cases g1 : left < x.name.size
  · have e1 : left - (x.name.size : Int) < 0 := by omega
    have er : leftTun left x = -1 := if_pos (by omega)
    have ER := Lib.hid er; clear er
    go_enter Tryd.func12, Tryd.ntmps12
    go_wp2
    go_ret
    refine ⟨by rw [ER.out]; rfl, ?_⟩
    (repeat (first | with_reducible exact Below.refl _ _ | with_reducible exact hbw | (with_reducible refine Below.setCell ?_ ?_ _; rotate_left; · first | exact Nat.le_refl _ | omega | (simp; done) | (simp; omega)) | (with_reducible refine Below.alloc ?_ ?_ _; rotate_left; · first | exact Nat.le_refl _ | omega | (simp; done) | (simp; omega)) | with_reducible refine below_drewN ?_ _ | with_reducible refine Below.drew ?_))
  · have e1 : ¬ left - (x.name.size : Int) < 0 := by omega
    by_cases g2 : left - x.name.size < x.tones.length
    · have er : leftTun left x = -1 := if_pos (by omega)
      have ER := Lib.hid er; clear er
      go_enter Tryd.func12, Tryd.ntmps12
      go_wp2_with fail
      refine (szTons_any _ x.tones x.tones.length (left - x.name.size) _ ⟨a, cap, rfl⟩ (by omega) (by omega) (by omega)).mono ?_
      rw [if_pos (by omega)]
      rintro e w1 ⟨rfl, rfl⟩
      go_wp2
      go_ret
      refine ⟨by rw [ER.out]; rfl, ?_⟩
      (repeat (first | with_reducible exact Below.refl _ _ | with_reducible exact hbw | (with_reducible refine Below.setCell ?_ ?_ _; rotate_left; · first | exact Nat.le_refl _ | omega | (simp; done) | (simp; omega)) | (with_reducible refine Below.alloc ?_ ?_ _; rotate_left; · first | exact Nat.le_refl _ | omega | (simp; done) | (simp; omega)) | with_reducible refine below_drewN ?_ _ | with_reducible refine Below.drew ?_))
    · have er : leftTun left x = left - x.name.size - x.tones.length := if_neg (by omega)
      have ER := Lib.hid er; clear er
      go_enter Tryd.func12, Tryd.ntmps12
      go_wp2_with fail
      refine (szTons_any _ x.tones x.tones.length (left - x.name.size) _ ⟨a, cap, rfl⟩ (by omega) (by omega) (by omega)).mono ?_
      rw [if_neg (by omega)]
      rintro e w1 ⟨rfl, rfl⟩
      have e2 : ¬ left - (x.name.size : Int) - (x.tones.length : Int) < 0 := by omega
      go_wp2
      go_ret
      refine ⟨by rw [ER.out]; rfl, ?_⟩
      (repeat (first | with_reducible exact Below.refl _ _ | with_reducible exact hbw | (with_reducible refine Below.setCell ?_ ?_ _; rotate_left; · first | exact Nat.le_refl _ | omega | (simp; done) | (simp; omega)) | (with_reducible refine Below.alloc ?_ ?_ _; rotate_left; · first | exact Nat.le_refl _ | omega | (simp; done) | (simp; omega)) | with_reducible refine below_drewN ?_ _ | with_reducible refine Below.drew ?_))

set_option maxHeartbeats 400000 in
theorem toTun_any (v lv : Value) (x : TunD) (w : World) (h : Tun w v lv x) (hs : x.tones.length ≤ 1048576) :
    Calls Tryd.prog 14 #[v] w fun e w' => ∃ lv', e = .returned (.agg #[.string x.name, lv']) ∧ w'.ownsRow w.heap.size 59 3 lv' x.tones.length (x.tones.flatMap Ton.cells) ∧ Below w.heap.size w w' := by
  obtain ⟨rfl, hlv⟩ := h
  go_enter Tryd.func14, Tryd.ntmps14
  go_wp2_with fail
  refine (toTons_any lv x.tones _ (hlv.mono (by (repeat (first | with_reducible exact Below.refl _ _ | with_reducible exact hbw | (with_reducible refine Below.setCell ?_ ?_ _; rotate_left; · first | exact Nat.le_refl _ | omega | (simp; done) | (simp; omega)) | (with_reducible refine Below.alloc ?_ ?_ _; rotate_left; · first | exact Nat.le_refl _ | omega | (simp; done) | (simp; omega)) | with_reducible refine below_drewN ?_ _ | with_reducible refine Below.drew ?_)))) hs).mono ?_
  rintro e w1 ⟨lv', rfl, ho, hb⟩
  obtain ⟨a', cap', rfl⟩ := owns_slice ho
  obtain ⟨hc, hf⟩ := bcell hb
  have hz : w.heap.size + 1 + 1 < w1.heap.size := by have := hb.size; simp at this; omega
  go_wp2
  refine bodyPost_ret (v := .agg #[.string x.name, .slice a' x.tones.length cap']) (by simp [results, Tryd.results14, go_sem, hc, hz]) rfl ⟨_, rfl, ?_, ?_⟩
  · refine owns_base (base := w.heap.size + 1 + 1 + 1) ?_ (by omega)
    repeat (refine ownsRow_setCell_below ?_ (by first | (simp; done) | (simp; omega)) _)
    simpa using ho
  · have hbw : Below w.heap.size w w1 := Below.trans (by (repeat (first | with_reducible exact Below.refl _ _ | with_reducible exact hbw | (with_reducible refine Below.setCell ?_ ?_ _; rotate_left; · first | exact Nat.le_refl _ | omega | (simp; done) | (simp; omega)) | (with_reducible refine Below.alloc ?_ ?_ _; rotate_left; · first | exact Nat.le_refl _ | omega | (simp; done) | (simp; omega)) | with_reducible refine below_drewN ?_ _ | with_reducible refine Below.drew ?_))) (hb.mono (by simp <;> omega))
    (repeat (first | with_reducible exact Below.refl _ _ | with_reducible exact hbw | (with_reducible refine Below.setCell ?_ ?_ _; rotate_left; · first | exact Nat.le_refl _ | omega | (simp; done) | (simp; omega)) | (with_reducible refine Below.alloc ?_ ?_ _; rotate_left; · first | exact Nat.le_refl _ | omega | (simp; done) | (simp; omega)) | with_reducible refine below_drewN ?_ _ | with_reducible refine Below.drew ?_))

set_option maxHeartbeats 1000000 in
theorem eqTun_any (v1 l1 v2 l2 : Value) (x y : TunD) (w : World) (h1 : Tun w v1 l1 x) (h2 : Tun w v2 l2 y) :
    Calls Tryd.prog 16 #[v1, v2] w fun e w' => e = .returned (.bool (decide (x = y))) ∧ Below w.heap.size w w' := by
  obtain ⟨rfl, hl1⟩ := h1
  obtain ⟨rfl, hl2⟩ := h2
  by_cases e1 : x.name = y.name
  · have b1 : (x.name.toList == y.name.toList) = true := by rw [str_beq]; simpa using e1
    have E1 := Lib.hid e1; clear e1
    go_enter Tryd.func16, Tryd.ntmps16
    go_wp2_with fail
    refine (eqTons_any l1 l2 x.tones y.tones _ (hl1.mono (by (repeat (first | with_reducible exact Below.refl _ _ | with_reducible exact hbw | (with_reducible refine Below.setCell ?_ ?_ _; rotate_left; · first | exact Nat.le_refl _ | omega | (simp; done) | (simp; omega)) | (with_reducible refine Below.alloc ?_ ?_ _; rotate_left; · first | exact Nat.le_refl _ | omega | (simp; done) | (simp; omega)) | with_reducible refine below_drewN ?_ _ | with_reducible refine Below.drew ?_)))) (hl2.mono (by (repeat (first | with_reducible exact Below.refl _ _ | with_reducible exact hbw | (with_reducible refine Below.setCell ?_ ?_ _; rotate_left; · first | exact Nat.le_refl _ | omega | (simp; done) | (simp; omega)) | (with_reducible refine Below.alloc ?_ ?_ _; rotate_left; · first | exact Nat.le_refl _ | omega | (simp; done) | (simp; omega)) | with_reducible refine below_drewN ?_ _ | with_reducible refine Below.drew ?_))))).mono ?_
    rintro e w1 ⟨rfl, hb⟩
    have hbw : Below w.heap.size w w1 := Below.trans (by (repeat (first | with_reducible exact Below.refl _ _ | with_reducible exact hbw | (with_reducible refine Below.setCell ?_ ?_ _; rotate_left; · first | exact Nat.le_refl _ | omega | (simp; done) | (simp; omega)) | (with_reducible refine Below.alloc ?_ ?_ _; rotate_left; · first | exact Nat.le_refl _ | omega | (simp; done) | (simp; omega)) | with_reducible refine below_drewN ?_ _ | with_reducible refine Below.drew ?_))) (hb.mono (by simp <;> omega))
    clear hb
    by_cases e2 : x.tones = y.tones
    · have b2 : decide (x.tones = y.tones) = true := by simpa using e2
      have E2 := Lib.hid e2; clear e2
      go_wp2
      go_ret
      exact ⟨ret_bool (tun_true E1.out E2.out), hbw⟩
    · have b2 : decide (x.tones = y.tones) = false := by simpa using e2
      have E2 := Lib.hid e2; clear e2
      go_wp2
      go_ret
      exact ⟨ret_bool (tun_false fun h => E2.out h.2), hbw⟩
  · have b1 : (x.name.toList == y.name.toList) = false := by rw [str_beq]; simpa using e1
    have E1 := Lib.hid e1; clear e1
    go_enter Tryd.func16, Tryd.ntmps16
    go_wp2
    go_ret
    refine ⟨ret_bool (tun_false fun h => E1.out h.1), ?_⟩
    (repeat (first | with_reducible exact Below.refl _ _ | with_reducible exact hbw | (with_reducible refine Below.setCell ?_ ?_ _; rotate_left; · first | exact Nat.le_refl _ | omega | (simp; done) | (simp; omega)) | (with_reducible refine Below.alloc ?_ ?_ _; rotate_left; · first | exact Nat.le_refl _ | omega | (simp; done) | (simp; omega)) | with_reducible refine below_drewN ?_ _ | with_reducible refine Below.drew ?_))

set_option maxHeartbeats 400000 in
theorem markTun_any (lv : Value) (nm : ByteArray) (n base k : Nat) (te : TypeId) (cs : List Value) (w : World) (ho : w.ownsRow base te 3 lv n cs) (hk : k + 3 * n ≤ 1000000000) :
    Calls Tryd.prog 24 #[.agg #[.string nm, lv], .int .i64 k] w fun e w' => e = .returned (.int .i64 ↑(k + n * 3)) ∧ w'.ownsRow base te 3 lv n (marks k (n * 3)) ∧ w.grownBy w' lv.ownBlock := by
  obtain ⟨a, cap, rfl⟩ := owns_slice ho
  go_enter Tryd.func24, Tryd.ntmps24
  go_wp2_with fail
  refine (markTons_any _ n base te cs k _ (ho.alloc _) hk).mono ?_
  rintro e w1 ⟨rfl, ho1, hg⟩
  go_wp2
  go_ret
  exact ⟨rfl, ho1, grown_trans (World.grownBy_alloc _ _ _) hg⟩

set_option maxHeartbeats 400000 in
theorem heldTun_any (lv : Value) (nm : ByteArray) (n k : Nat) (w : World) (h : Sl w lv n (marks k (n * 3))) (hk : k + 3 * n ≤ 1000000000) :
    Calls Tryd.prog 25 #[.agg #[.string nm, lv], .int .i64 k] w fun e w' => e = .returned (.int .i64 ↑(k + n * 3)) ∧ Below w.heap.size w w' := by
  obtain ⟨a, cap, rfl, _, _, _⟩ := id h
  have hz : ¬ ((k : Int) + (n : Int) * 3 < 0) := by omega
  go_enter Tryd.func25, Tryd.ntmps25
  go_wp2_with fail
  refine (heldTons_any _ n k _ (h.mono (by (repeat (first | with_reducible exact Below.refl _ _ | with_reducible exact hbw | (with_reducible refine Below.setCell ?_ ?_ _; rotate_left; · first | exact Nat.le_refl _ | omega | (simp; done) | (simp; omega)) | (with_reducible refine Below.alloc ?_ ?_ _; rotate_left; · first | exact Nat.le_refl _ | omega | (simp; done) | (simp; omega)) | with_reducible refine below_drewN ?_ _ | with_reducible refine Below.drew ?_)))) hk).mono ?_
  rintro e w1 ⟨rfl, rfl⟩
  go_wp2
  go_ret
  refine ⟨rfl, ?_⟩
  (repeat (first | with_reducible exact Below.refl _ _ | with_reducible exact hbw | (with_reducible refine Below.setCell ?_ ?_ _; rotate_left; · first | exact Nat.le_refl _ | omega | (simp; done) | (simp; omega)) | (with_reducible refine Below.alloc ?_ ?_ _; rotate_left; · first | exact Nat.le_refl _ | omega | (simp; done) | (simp; omega)) | with_reducible refine below_drewN ?_ _ | with_reducible refine Below.drew ?_))

/-- A tune lies in block b, its tones at lv. -/
structure TunAt (w : World) (b : Nat) (lv : Value) (x : TunD) : Prop where
  c0 : w.cell? ⟨b, 0, none⟩ = some (.string x.name)
  c1 : w.cell? ⟨b, 1, none⟩ = some lv
  tones : Tons w lv x.tones

end Go.Proofs.YtgdfecnpkjnhnaaDoor
