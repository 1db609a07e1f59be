/- Contracts of ValidAction of both packages and what they call. -/
import Derived.Test.YtijhlllajddlpaaDoorKAct
import Derived.Test.YtijhlllajddlpaaDoorWithin
set_option linter.unusedSimpArgs false
set_option linter.unnecessarySimpa false
set_option linter.unusedVariables false
namespace Go.Proofs.YtijhlllajddlpaaDoor
open Go.RowKit

def arm (n : Int) : Prop := 1 ≤ n ∧ n ≤ 100000
instance (n : Int) : Decidable (arm n) := by unfold arm; infer_instance
def armsOk (ls : List Lev) : Prop := ∀ l ∈ ls, arm l.inn ∧ arm l.out
instance (ls : List Lev) : Decidable (armsOk ls) := by unfold armsOk; infer_instance
def slackOk (n : Int) : Prop := 0 ≤ n ∧ n ≤ 10000
instance (n : Int) : Decidable (slackOk n) := by unfold slackOk; infer_instance

structure ActOk (x : ActD) : Prop where
  note : 0 ≤ x.note ∧ x.note ≤ 127
  len : x.levs.length ≤ 6
  arms : armsOk x.levs
  slack : slackOk x.slack
  weight : 0 ≤ x.weight ∧ x.weight ≤ 1000000
theorem ActOk.iff' (x : ActD) : ActOk x ↔ (0 ≤ x.note ∧ x.note ≤ 127) ∧ x.levs.length ≤ 6 ∧ armsOk x.levs ∧ slackOk x.slack ∧ (0 ≤ x.weight ∧ x.weight ≤ 1000000) :=
  ⟨fun h => ⟨h.1, h.2, h.3, h.4, h.5⟩, fun h => ⟨h.1, h.2.1, h.2.2.1, h.2.2.2.1, h.2.2.2.2⟩⟩
instance (x : ActD) : Decidable (ActOk x) := decidable_of_iff' _ (ActOk.iff' x)
def validActB (x : ActD) : Bool := decide (ActOk x)
theorem finAct {x : ActD} {b : Bool} (h : ActOk x ↔ b = true) : b = validActB x := by cases b <;> simp [validActB] at h ⊢ <;> exact h

theorem isArm_any (b : Bool) (n : Int) (w : World) (h : b = decide (arm n)) :
    Calls Tryd.prog 51 #[.int .i64 n] w fun e w' => e = .returned (.bool b) ∧ w' = w := by
  have H := Lib.hid h; clear h
  go_enter Tryd.func51, Tryd.ntmps51
  go_wp2_with (go_at_call 40; refine (within_any b _ _ _ _ H.out).mono ?_; rintro e w' ⟨rfl, rfl⟩)
  go_ret
  exact ⟨rfl, rfl⟩
theorem isSlack_any (b : Bool) (n : Int) (w : World) (h : b = decide (slackOk n)) :
    Calls Tryd.prog 52 #[.int .i64 n] w fun e w' => e = .returned (.bool b) ∧ w' = w := by
  have H := Lib.hid h; clear h
  go_enter Tryd.func52, Tryd.ntmps52
  go_wp2_with (go_at_call 40; refine (within_any b _ _ _ _ H.out).mono ?_; rintro e w' ⟨rfl, rfl⟩)
  go_ret
  exact ⟨rfl, rfl⟩

theorem badLev_any (b : Bool) (x : Lev) (w : World) (h : b = decide (¬ (arm x.inn ∧ arm x.out))) :
    Calls Tryd.prog 50 #[.agg #[.int .i64 x.inn, .int .i64 x.out]] w fun e w' => e = .returned (.bool b) ∧ Below w.heap.size w w' := by
  by_cases h1 : arm x.inn
  · have H1 := Lib.hid (show true = decide (arm x.inn) by simpa using h1)
    have H2 := Lib.hid (show (!b) = decide (arm x.out) by subst h; simp [h1])
    clear h h1
    go_enter Tryd.func50, Tryd.ntmps50
    go_wp2_with fail
    refine (isArm_any true _ _ H1.out).mono ?_
    rintro e w1 ⟨rfl, rfl⟩
    go_wp2_with fail
    refine (isArm_any (!b) _ _ H2.out).mono ?_
    rintro e w1 ⟨rfl, rfl⟩
    go_wp2
    go_ret
    refine ⟨by simp, ?_⟩
    (repeat (first | with_reducible exact Below.refl _ _ | with_reducible exact hbw | (with_reducible refine Below.setCell ?_ ?_ _; rotate_left; · first | exact Nat.le_refl _ | omega | (simp; done) | (simp; omega)) | (with_reducible refine Below.alloc ?_ ?_ _; rotate_left; · first | exact Nat.le_refl _ | omega | (simp; done) | (simp; omega)) | with_reducible refine below_drewN ?_ _ | with_reducible refine Below.drew ?_))
  · have H1 := Lib.hid (show false = decide (arm x.inn) by simpa using h1)
    have H2 := Lib.hid (show b = true by subst h; simp [h1])
    clear h h1
    go_enter Tryd.func50, Tryd.ntmps50
    go_wp2_with fail
    refine (isArm_any false _ _ H1.out).mono ?_
    rintro e w1 ⟨rfl, rfl⟩
    go_wp2
    go_ret
    refine ⟨by rw [H2.out]; rfl, ?_⟩
    (repeat (first | with_reducible exact Below.refl _ _ | with_reducible exact hbw | (with_reducible refine Below.setCell ?_ ?_ _; rotate_left; · first | exact Nat.le_refl _ | omega | (simp; done) | (simp; omega)) | (with_reducible refine Below.alloc ?_ ?_ _; rotate_left; · first | exact Nat.le_refl _ | omega | (simp; done) | (simp; omega)) | with_reducible refine below_drewN ?_ _ | with_reducible refine Below.drew ?_))

/-- The index of the first element with a property, or -1. -/
def firstIdx {α : Type} (p : α → Prop) [DecidablePred p] (xs : List α) : Int := match xs.findIdx? (fun x => decide (p x)) with | some i => i | none => -1
theorem firstIdx_none {α : Type} {p : α → Prop} [DecidablePred p] {xs : List α} (h : ∀ i (hi : i < xs.length), ¬ p xs[i]) : firstIdx p xs = -1 := by
  have : xs.findIdx? (fun x => decide (p x)) = none := by
    rw [List.findIdx?_eq_none_iff]; intro x hx; obtain ⟨i, hi, rfl⟩ := List.getElem_of_mem hx; simpa using h i hi
  unfold firstIdx; rw [this]
theorem firstIdx_some {α : Type} {p : α → Prop} [DecidablePred p] {xs : List α} {k : Nat} (hk : k < xs.length) (h : ∀ i (hi : i < xs.length), i < k → ¬ p xs[i]) (hp : p xs[k]) : firstIdx p xs = k := by
  have : xs.findIdx? (fun x => decide (p x)) = some k := by
    rw [List.findIdx?_eq_some_iff_getElem]; exact ⟨hk, by simpa using hp, fun j hj => by simpa using h j (by omega) hj⟩
  unfold firstIdx; rw [this]

theorem not_step {α : Type} {p : α → Prop} {xs : List α} {k : Nat} {hk : k < xs.length} (h : ∀ i (hi : i < xs.length), i < k → ¬ p xs[i]) (hp : ¬ p xs[k]) : ∀ i (hi : i < xs.length), i < k + 1 → ¬ p xs[i] := fun i hi hik => by
  by_cases e : i = k
  · subst e; exact hp
  · exact h i hi (by omega)

def badLev (x : Lev) : Prop := ¬ (arm x.inn ∧ arm x.out)
instance : DecidablePred badLev := fun x => by unfold badLev; infer_instance

set_option maxHeartbeats 400000 in
theorem indexLev_any (v : Value) (xs : List Lev) (w : World) (h1 : Levs w v xs) :
    Calls Tryd.prog 66 #[v, .func (.func 50) #[] #[]] w fun e w' => e = .returned (.int .i64 (firstIdx badLev xs)) ∧ Below w.heap.size w w' := by
  obtain ⟨a, ca, rfl, hca, hcm, _⟩ := id h1
  have hm : xs.length ≤ maxLen := by omega
  clear hca hcm
  unfold maxLen at hm
  go_enter Tryd.func66, Tryd.ntmps66
  go_wp2
  go_loopw [8] (fun i wr => ∃ k : Nat, k ≤ xs.length ∧ i = .int .i64 k ∧ (∀ i (hi : i < xs.length), i < k → ¬ badLev xs[i]) ∧ Below w.heap.size w wr) (fun i _ => xs.length - (intOf i).toNat)
  case atStart => exact ⟨0, Nat.zero_le _, rfl, by intro i _ h; omega, Below.refl _ _⟩
  case round =>
    obtain ⟨k, hk, rfl, ht', hb⟩ := hrel
    have ht := Lib.hid ht'; clear ht'
    by_cases hlt : k < xs.length
    · obtain ⟨b1, o1, rfl, hB1, c0, c1⟩ := (h1.mono hb).at hlt
      by_cases hbad : badLev xs[k]
      · have H := Lib.hid (firstIdx_some hlt ht.out hbad)
        have H2 := Lib.hid (show true = decide (¬ (arm xs[k].inn ∧ arm xs[k].out)) from yesB hbad)
        clear hbad
        go_wp2_with fail
        refine (badLev_any true xs[k] _ H2.out).mono ?_
        rintro e w1 ⟨rfl, hb1⟩
        go_wp2
        go_ret
        exact ⟨by rw [H.out]; rfl, hb.trans (hb1.mono hb.size)⟩
      · have H := Lib.hid hbad
        have H2 := Lib.hid (show false = decide (¬ (arm xs[k].inn ∧ arm xs[k].out)) from noB hbad)
        clear hbad
        go_wp2_with fail
        refine (badLev_any false xs[k] _ H2.out).mono ?_
        rintro e w1 ⟨rfl, hb1⟩
        go_wp2
        go_roundw
        case rel => exact ⟨k + 1, by omega, by go_num, not_step ht.out H.out, hb.trans (hb1.mono hb.size)⟩
        case measure => simp [intOf]; omega
    · have H := Lib.hid (firstIdx_none (p := badLev) (xs := xs) fun i hi => ht.out i hi (by omega))
      go_wp2
      go_ret
      exact ⟨by rw [H.out]; rfl, hb⟩

theorem badLev_arms (xs : List Lev) : 0 ≤ firstIdx badLev xs ↔ ¬ armsOk xs := by
  constructor
  · intro h ha
    rw [firstIdx_none (p := badLev) (fun i hi hb => hb (ha _ (List.getElem_mem hi)))] at h
    omega
  · intro h
    unfold firstIdx
    split
    · omega
    · rename_i hn
      rw [List.findIdx?_eq_none_iff] at hn
      exact absurd (fun l hl => by have := hn l hl; simpa [badLev] using this) h

set_option maxHeartbeats 400000 in
theorem containsLev_any (b : Bool) (v : Value) (xs : List Lev) (w : World) (h1 : Levs w v xs) (h : b = decide (¬ armsOk xs)) :
    Calls Tryd.prog 49 #[v, .func (.func 50) #[] #[]] w fun e w' => e = .returned (.bool b) ∧ Below w.heap.size w w' := by
  have H := Lib.hid (show decide (0 ≤ firstIdx badLev xs) = b by rw [h]; simp [badLev_arms])
  clear h
  go_enter Tryd.func49, Tryd.ntmps49
  go_wp2_with fail
  refine (indexLev_any v xs _ h1).mono ?_
  rintro e w1 ⟨rfl, hb1⟩
  go_wp2
  go_ret
  exact ⟨by rw [← H.out]; rfl, hb1⟩

set_option maxHeartbeats 1000000 in
theorem implValidAct_any (v lv : Value) (x : ActD) (w : World) (h : Acc w v lv x) :
    Calls Tryd.prog 27 #[v] w fun e w' => e = .returned (.bool (validActB x)) ∧ Below w.heap.size w w' := by
  obtain ⟨rfl, hlv⟩ := h
  obtain ⟨a, ca, rfl, hca, hcm, _⟩ := id hlv
  have hm : x.levs.length ≤ maxLen := by omega
  clear hca hcm
  unfold maxLen at hm
  by_cases e1 : 0 ≤ x.note ∧ x.note ≤ 127
  · have E1 := Lib.hid e1; clear e1
    by_cases e2 : x.levs.length ≤ 6
    · have d2 : decide ((x.levs.length : Int) ≤ 6) = true := by simp; omega
      have E2 := Lib.hid e2; clear e2
      by_cases e3 : armsOk x.levs
      · have E3 := Lib.hid e3; clear e3
        by_cases e4 : slackOk x.slack
        · have E4 := Lib.hid e4; clear e4
          generalize hb5 : decide (0 ≤ x.weight ∧ x.weight ≤ 1000000) = b5
          have B5 := Lib.hid hb5; clear hb5
          go_enter Tryd.func27, Tryd.ntmps27
          go_wp2_with fail
          refine (within_any true _ _ _ _ (yesB E1.out)).mono ?_
          rintro e w1 ⟨rfl, rfl⟩
          go_wp2_with fail
          refine (containsLev_any false _ x.levs _ (hlv.mono (by (repeat (first | with_reducible exact Below.refl _ _ | with_reducible exact hbw | (with_reducible refine Below.setCell ?_ ?_ _; rotate_left; · first | exact Nat.le_refl _ | omega | (simp; done) | (simp; omega)) | (with_reducible refine Below.alloc ?_ ?_ _; rotate_left; · first | exact Nat.le_refl _ | omega | (simp; done) | (simp; omega)) | with_reducible refine below_drewN ?_ _ | with_reducible refine Below.drew ?_)))) (noB fun h => h E3.out)).mono ?_
          rintro e w1 ⟨rfl, hb1⟩
          obtain ⟨hc, hf⟩ := bcell hb1
          have hz : w.heap.size < w1.heap.size := by have := hb1.size; simp at this; omega
          have hbw : Below w.heap.size w w1 := Below.trans (by (repeat (first | with_reducible exact Below.refl _ _ | with_reducible exact hbw | (with_reducible refine Below.setCell ?_ ?_ _; rotate_left; · first | exact Nat.le_refl _ | omega | (simp; done) | (simp; omega)) | (with_reducible refine Below.alloc ?_ ?_ _; rotate_left; · first | exact Nat.le_refl _ | omega | (simp; done) | (simp; omega)) | with_reducible refine below_drewN ?_ _ | with_reducible refine Below.drew ?_))) (hb1.mono (by simp <;> omega))
          clear hb1
          go_wp2_with fail
          refine (isSlack_any true _ _ (yesB E4.out)).mono ?_
          rintro e w2 ⟨rfl, rfl⟩
          go_wp2_with fail
          refine (within_any b5 _ _ _ _ B5.out.symm).mono ?_
          rintro e w2 ⟨rfl, rfl⟩
          go_wp2
          go_ret
          exact ⟨ret_bool (finAct (by rw [← B5.out, ActOk.iff']; simp [E1.out, E2.out, E3.out, E4.out])), hbw⟩
        · have E4 := Lib.hid e4; clear e4
          go_enter Tryd.func27, Tryd.ntmps27
          go_wp2_with fail
          refine (within_any true _ _ _ _ (yesB E1.out)).mono ?_
          rintro e w1 ⟨rfl, rfl⟩
          go_wp2_with fail
          refine (containsLev_any false _ x.levs _ (hlv.mono (by (repeat (first | with_reducible exact Below.refl _ _ | with_reducible exact hbw | (with_reducible refine Below.setCell ?_ ?_ _; rotate_left; · first | exact Nat.le_refl _ | omega | (simp; done) | (simp; omega)) | (with_reducible refine Below.alloc ?_ ?_ _; rotate_left; · first | exact Nat.le_refl _ | omega | (simp; done) | (simp; omega)) | with_reducible refine below_drewN ?_ _ | with_reducible refine Below.drew ?_)))) (noB fun h => h E3.out)).mono ?_
          rintro e w1 ⟨rfl, hb1⟩
          obtain ⟨hc, hf⟩ := bcell hb1
          have hz : w.heap.size < w1.heap.size := by have := hb1.size; simp at this; omega
          have hbw : Below w.heap.size w w1 := Below.trans (by (repeat (first | with_reducible exact Below.refl _ _ | with_reducible exact hbw | (with_reducible refine Below.setCell ?_ ?_ _; rotate_left; · first | exact Nat.le_refl _ | omega | (simp; done) | (simp; omega)) | (with_reducible refine Below.alloc ?_ ?_ _; rotate_left; · first | exact Nat.le_refl _ | omega | (simp; done) | (simp; omega)) | with_reducible refine below_drewN ?_ _ | with_reducible refine Below.drew ?_))) (hb1.mono (by simp <;> omega))
          clear hb1
          go_wp2_with fail
          refine (isSlack_any false _ _ (noB E4.out)).mono ?_
          rintro e w2 ⟨rfl, rfl⟩
          go_wp2
          go_ret
          exact ⟨ret_bool (finAct (by simpa using fun h : ActOk x => E4.out h.slack)), hbw⟩
      · have E3 := Lib.hid e3; clear e3
        go_enter Tryd.func27, Tryd.ntmps27
        go_wp2_with fail
        refine (within_any true _ _ _ _ (yesB E1.out)).mono ?_
        rintro e w1 ⟨rfl, rfl⟩
        go_wp2_with fail
        refine (containsLev_any true _ x.levs _ (hlv.mono (by (repeat (first | with_reducible exact Below.refl _ _ | with_reducible exact hbw | (with_reducible refine Below.setCell ?_ ?_ _; rotate_left; · first | exact Nat.le_refl _ | omega | (simp; done) | (simp; omega)) | (with_reducible refine Below.alloc ?_ ?_ _; rotate_left; · first | exact Nat.le_refl _ | omega | (simp; done) | (simp; omega)) | with_reducible refine below_drewN ?_ _ | with_reducible refine Below.drew ?_)))) (yesB E3.out)).mono ?_
        rintro e w1 ⟨rfl, hb1⟩
        have hbw : Below w.heap.size w w1 := Below.trans (by (repeat (first | with_reducible exact Below.refl _ _ | with_reducible exact hbw | (with_reducible refine Below.setCell ?_ ?_ _; rotate_left; · first | exact Nat.le_refl _ | omega | (simp; done) | (simp; omega)) | (with_reducible refine Below.alloc ?_ ?_ _; rotate_left; · first | exact Nat.le_refl _ | omega | (simp; done) | (simp; omega)) | with_reducible refine below_drewN ?_ _ | with_reducible refine Below.drew ?_))) (hb1.mono (by simp <;> omega))
        clear hb1
        go_wp2
        go_ret
        exact ⟨ret_bool (finAct (by simpa using fun h : ActOk x => E3.out h.arms)), hbw⟩
    · have d2 : decide ((x.levs.length : Int) ≤ 6) = false := by simp; omega
      have E2 := Lib.hid e2; clear e2
      go_enter Tryd.func27, Tryd.ntmps27
      go_wp2_with fail
      refine (within_any true _ _ _ _ (yesB E1.out)).mono ?_
      rintro e w1 ⟨rfl, rfl⟩
      go_wp2
      go_ret
      refine ⟨ret_bool (finAct (by simpa using fun h : ActOk x => E2.out h.len)), ?_⟩
      (repeat (first | with_reducible exact Below.refl _ _ | with_reducible exact hbw | (with_reducible refine Below.setCell ?_ ?_ _; rotate_left; · first | exact Nat.le_refl _ | omega | (simp; done) | (simp; omega)) | (with_reducible refine Below.alloc ?_ ?_ _; rotate_left; · first | exact Nat.le_refl _ | omega | (simp; done) | (simp; omega)) | with_reducible refine below_drewN ?_ _ | with_reducible refine Below.drew ?_))
  · have E1 := Lib.hid e1; clear e1
    go_enter Tryd.func27, Tryd.ntmps27
    go_wp2_with fail
    refine (within_any false _ _ _ _ (noB E1.out)).mono ?_
    rintro e w1 ⟨rfl, rfl⟩
    go_wp2
    go_ret
    refine ⟨ret_bool (finAct (by simpa using fun h : ActOk x => E1.out h.note)), ?_⟩
    (repeat (first | with_reducible exact Below.refl _ _ | with_reducible exact hbw | (with_reducible refine Below.setCell ?_ ?_ _; rotate_left; · first | exact Nat.le_refl _ | omega | (simp; done) | (simp; omega)) | (with_reducible refine Below.alloc ?_ ?_ _; rotate_left; · first | exact Nat.le_refl _ | omega | (simp; done) | (simp; omega)) | with_reducible refine below_drewN ?_ _ | with_reducible refine Below.drew ?_))

end Go.Proofs.YtijhlllajddlpaaDoor
