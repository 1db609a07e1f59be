/- Contracts of validTone, compareTones, l25Tone, l25Before. -/
import Derived.Test.YtgdfecnpkjnhnaaDoorKTun
import Derived.Test.YtgdfecnpkjnhnaaDoorWithin
set_option linter.unusedSimpArgs false
set_option linter.unnecessarySimpa false
set_option linter.unusedVariables false
namespace Go.Proofs.YtgdfecnpkjnhnaaDoor
open Go.RowKit

def noteOk (n : Int) : Prop := 0 ≤ n ∧ n ≤ 127
instance (n : Int) : Decidable (noteOk n) := by unfold noteOk; infer_instance
structure TonOk (x : Ton) : Prop where
  note : noteOk x.note
  start : 0 ≤ x.start ∧ x.start ≤ 20000
  len : 1 ≤ x.len ∧ x.len ≤ 20000 - x.start
theorem TonOk.iff' (x : Ton) : TonOk x ↔ noteOk x.note ∧ (0 ≤ x.start ∧ x.start ≤ 20000) ∧ (1 ≤ x.len ∧ x.len ≤ 20000 - x.start) := ⟨fun h => ⟨h.1, h.2, h.3⟩, fun h => ⟨h.1, h.2.1, h.2.2⟩⟩
instance (x : Ton) : Decidable (TonOk x) := decidable_of_iff' _ (TonOk.iff' x)
def before (x y : Ton) : Prop := x.start < y.start ∨ (x.start = y.start ∧ x.note < y.note)
instance (x y : Ton) : Decidable (before x y) := by unfold before; infer_instance

theorem isNote_any (b : Bool) (n : Int) (w : World) (h : b = decide (noteOk n)) :
    Calls Tryd.prog 73 #[.int .i64 n] w fun e w' => e = .returned (.bool b) ∧ w' = w := by
  have H := Lib.hid h; clear h
  go_enter Tryd.func73, Tryd.ntmps73
  go_wp2_with (go_at_call 61; refine (within_any b _ _ _ _ H.out).mono ?_; rintro e w' ⟨rfl, rfl⟩)
  go_ret
  exact ⟨rfl, rfl⟩
theorem l03Note_any (b : Bool) (n : Int) (w : World) (h : b = decide (noteOk n)) :
    Calls Tryd.prog 92 #[.int .i64 n] w fun e w' => e = .returned (.bool b) ∧ w' = w := by
  have H := Lib.hid h; clear h
  go_enter Tryd.func92, Tryd.ntmps92
  go_wp2_with (go_at_call 90; refine (l00In_any b _ _ _ _ H.out).mono ?_; rintro e w' ⟨rfl, rfl⟩)
  go_ret
  exact ⟨rfl, rfl⟩

set_option maxHeartbeats 400000 in
theorem validTone_any (b : Bool) (x : Ton) (w : World) (h : b = decide (TonOk x)) :
    Calls Tryd.prog 70 #[.agg #[.int .i64 x.note, .int .i64 x.start, .int .i64 x.len]] w fun e w' => e = .returned (.bool b) ∧ Below w.heap.size w w' := by
  by_cases e1 : noteOk x.note
  · by_cases e2 : 0 ≤ x.start ∧ x.start ≤ 20000
    · have hr : IntKind.i64.wrap (20000 - x.start) = 20000 - x.start := IntWalk.i64_in _ (by omega)
      have E1 := Lib.hid e1; have E2 := Lib.hid (yesB e2); have E3 := Lib.hid (show b = decide (1 ≤ x.len ∧ x.len ≤ 20000 - x.start) by subst h; simp only [TonOk.iff', e1, e2, true_and])
      obtain ⟨u1, u2⟩ := e2
      clear h e1 hr
      go_enter Tryd.func70, Tryd.ntmps70
      go_wp2_with fail
      refine (isNote_any true _ _ (yesB E1.out)).mono ?_
      rintro e w1 ⟨rfl, rfl⟩
      go_wp2_with fail
      refine (within_any true _ _ _ _ E2.out).mono ?_
      rintro e w1 ⟨rfl, rfl⟩
      go_wp2_with fail
      refine (within_any b _ _ _ _ E3.out).mono ?_
      rintro e w1 ⟨rfl, rfl⟩
      go_wp2
      go_ret
      refine ⟨rfl, ?_⟩
      (repeat (first | with_reducible exact Below.refl _ _ | with_reducible exact hbw | (with_reducible refine Below.setCell ?_ ?_ _; rotate_left; · first | exact Nat.le_refl _ | omega | (simp; done) | (simp; omega)) | (with_reducible refine Below.alloc ?_ ?_ _; rotate_left; · first | exact Nat.le_refl _ | omega | (simp; done) | (simp; omega)) | with_reducible refine below_drewN ?_ _ | with_reducible refine Below.drew ?_))
    · have E1 := Lib.hid e1; have E2 := Lib.hid (noB e2); have E3 := Lib.hid (show b = false by subst h; exact decide_eq_false fun h => e2 h.start)
      clear h e1 e2
      go_enter Tryd.func70, Tryd.ntmps70
      go_wp2_with fail
      refine (isNote_any true _ _ (yesB E1.out)).mono ?_
      rintro e w1 ⟨rfl, rfl⟩
      go_wp2_with fail
      refine (within_any false _ _ _ _ E2.out).mono ?_
      rintro e w1 ⟨rfl, rfl⟩
      go_wp2
      go_ret
      refine ⟨by rw [E3.out]; rfl, ?_⟩
      (repeat (first | with_reducible exact Below.refl _ _ | with_reducible exact hbw | (with_reducible refine Below.setCell ?_ ?_ _; rotate_left; · first | exact Nat.le_refl _ | omega | (simp; done) | (simp; omega)) | (with_reducible refine Below.alloc ?_ ?_ _; rotate_left; · first | exact Nat.le_refl _ | omega | (simp; done) | (simp; omega)) | with_reducible refine below_drewN ?_ _ | with_reducible refine Below.drew ?_))
  · have E1 := Lib.hid e1; have E3 := Lib.hid (show b = false by subst h; exact decide_eq_false fun h => e1 h.note)
    clear h e1
    go_enter Tryd.func70, Tryd.ntmps70
    go_wp2_with fail
    refine (isNote_any false _ _ (noB E1.out)).mono ?_
    rintro e w1 ⟨rfl, rfl⟩
    go_wp2
    go_ret
    refine ⟨by rw [E3.out]; rfl, ?_⟩
    (repeat (first | with_reducible exact Below.refl _ _ | with_reducible exact hbw | (with_reducible refine Below.setCell ?_ ?_ _; rotate_left; · first | exact Nat.le_refl _ | omega | (simp; done) | (simp; omega)) | (with_reducible refine Below.alloc ?_ ?_ _; rotate_left; · first | exact Nat.le_refl _ | omega | (simp; done) | (simp; omega)) | with_reducible refine below_drewN ?_ _ | with_reducible refine Below.drew ?_))

theorem isNaN_any (n : Int) (w : World) : Calls Tryd.prog 112 #[.int .i64 n] w fun e w' => e = .returned (.bool false) ∧ w' = w := by
  go_enter Tryd.func112, Tryd.ntmps112
  go_wp2
  go_ret
  exact ⟨by simp, rfl⟩

/-- What cmp.Compare answers. -/
def cmpI (a b : Int) : Int := if a < b then -1 else if b < a then 1 else 0
theorem compare_any (a b : Int) (w : World) : Calls Tryd.prog 96 #[.int .i64 a, .int .i64 b] w fun e w' => e = .returned (.int .i64 (cmpI a b)) ∧ w' = w := by
  rcases Int.lt_trichotomy a b with h | h | h
  · have H := Lib.hid (show cmpI a b = -1 from if_pos h)
    go_enter Tryd.func96, Tryd.ntmps96
    go_wp2_with (go_at_call 112; refine (isNaN_any _ _).mono ?_; rintro e w' ⟨rfl, rfl⟩)
    go_ret
    exact ⟨by rw [H.out]; rfl, rfl⟩
  · subst h
    have H := Lib.hid (show cmpI a a = 0 by simp [cmpI])
    go_enter Tryd.func96, Tryd.ntmps96
    go_wp2_with (go_at_call 112; refine (isNaN_any _ _).mono ?_; rintro e w' ⟨rfl, rfl⟩)
    go_ret
    exact ⟨by rw [H.out]; rfl, rfl⟩
  · have H := Lib.hid (show cmpI a b = 1 by unfold cmpI; rw [if_neg (by omega), if_pos h])
    have h2 : ¬ a < b := by omega
    go_enter Tryd.func96, Tryd.ntmps96
    go_wp2_with (go_at_call 112; refine (isNaN_any _ _).mono ?_; rintro e w' ⟨rfl, rfl⟩)
    go_ret
    exact ⟨by rw [H.out]; rfl, rfl⟩

end Go.Proofs.YtgdfecnpkjnhnaaDoor
