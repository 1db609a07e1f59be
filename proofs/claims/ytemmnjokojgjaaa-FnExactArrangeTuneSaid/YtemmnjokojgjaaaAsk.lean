/- Contracts of l26Ask and arranged: the first error of a tune, a set and a shift. -/
import Derived.Test.YtemmnjokojgjaaaSet
import Derived.Test.YtemmnjokojgjaaaValidTunI
import Derived.Test.YtemmnjokojgjaaaTunL
import Derived.Test.YtemmnjokojgjaaaApp
set_option linter.unusedSimpArgs false
set_option linter.unnecessarySimpa false
set_option linter.unusedVariables false
set_option maxRecDepth 100000
namespace Go.Proofs.Ytemmnjokojgjaaa
open Go.RowKit

def shiftIn (b : Int) : Prop := -24 ≤ b ∧ b ≤ 24
instance (b : Int) : Decidable (shiftIn b) := by unfold shiftIn; infer_instance
noncomputable def askC (x : TunD) (ns : List Int) (b : Int) : Int := if validTunB x = true then if validSet ns = true then if shiftIn b then 0 else 2 else 1 else 1
theorem ask_x {x : TunD} {ns : List Int} {b : Int} (h : ¬ validTunB x = true) : askC x ns b = 1 := by unfold askC; rw [if_neg h]
theorem ask_s {x : TunD} {ns : List Int} {b : Int} (h : validTunB x = true) (h2 : ¬ validSet ns = true) : askC x ns b = 1 := by unfold askC; rw [if_pos h, if_neg h2]
theorem ask_b {x : TunD} {ns : List Int} {b : Int} (h : validTunB x = true) (h2 : validSet ns = true) (h3 : ¬ shiftIn b) : askC x ns b = 2 := by unfold askC; rw [if_pos h, if_pos h2, if_neg h3]
theorem ask_ok {x : TunD} {ns : List Int} {b : Int} (h : validTunB x = true) (h2 : validSet ns = true) (h3 : shiftIn b) : askC x ns b = 0 := by unfold askC; rw [if_pos h, if_pos h2, if_pos h3]
/-- Right arguments: the code is 0 just then. -/
theorem ask_zero {x : TunD} {ns : List Int} {b : Int} : askC x ns b = 0 ↔ validTunB x = true ∧ validSet ns = true ∧ shiftIn b := by
  constructor
  · intro h
    by_cases h1 : validTunB x = true
    · by_cases h2 : validSet ns = true
      · by_cases h3 : shiftIn b
        · exact ⟨h1, h2, h3⟩
        · rw [ask_b h1 h2 h3] at h; cases h
      · rw [ask_s h1 h2] at h; cases h
    · rw [ask_x h1] at h; cases h
  · rintro ⟨h1, h2, h3⟩; exact ask_ok h1 h2 h3

theorem isShift_any (r : Bool) (b : Int) (w : World) (h : r = decide (shiftIn b)) :
    Calls Try.prog 77 #[.int .i64 b] w fun e w' => e = .returned (.bool r) ∧ w' = w := by
  have H := Lib.hid h; clear h
  go_enter Try.func77, Try.ntmps77
  go_wp2_with fail
  refine (within_any r _ _ _ _ H.out).mono ?_
  rintro e w1 ⟨rfl, rfl⟩
  go_wp2
  go_ret
  exact ⟨rfl, rfl⟩
theorem l26Shift_any (r : Bool) (b : Int) (w : World) (h : r = decide (shiftIn b)) :
    Calls Try.prog 72 #[.int .i64 b] w fun e w' => e = .returned (.bool r) ∧ w' = w := by
  have H := Lib.hid h; clear h
  go_enter Try.func72, Try.ntmps72
  go_wp2_with fail
  refine (l00In_any r _ _ _ _ H.out).mono ?_
  rintro e w1 ⟨rfl, rfl⟩
  go_wp2
  go_ret
  exact ⟨rfl, rfl⟩

set_option maxHeartbeats 1000000 in
theorem l26Ask_any (k : Nat) (lv v : Value) (x : TunD) (ns : List Int) (b : Int) (w : World) (h : TunIn w k lv x) (hn : Ints w v ns) :
    Calls Try.prog 41 #[.pointer (some ⟨k, 0, none⟩), v, .int .i64 b] w fun e w' => e = .returned (.int .i64 (askC x ns b)) ∧ Below w.heap.size w w' := by
  obtain ⟨a1, c1, rfl, _, _, _⟩ := id hn
  by_cases gx : validTunB x = true
  · have GX := Lib.hid gx
    cases gs : validSet ns
    · rw [ask_s gx (by rw [gs]; exact Bool.false_ne_true)]
      have GS := Lib.hid gs; clear gs gx
      go_enter Try.func41, Try.ntmps41
      go_wp2_with fail
      refine (l25Ok_any _ lv x _ h).mono ?_
      rw [GX.out]
      rintro e w1 ⟨rfl, hb⟩
      go_wp2_with fail
      refine (l26Set_any _ ns _ (Ints.mono hn hb)).mono ?_
      rw [GS.out]
      rintro e w2 ⟨rfl, hq⟩
      go_wp2
      go_ret
      exact ⟨rfl, hb.trans (hq.below _)⟩
    · by_cases gb : shiftIn b
      · rw [ask_ok gx gs gb]
        have GS := Lib.hid gs; have GB := Lib.hid (yesB gb); clear gs gx gb
        go_enter Try.func41, Try.ntmps41
        go_wp2_with fail
        refine (l25Ok_any _ lv x _ h).mono ?_
        rw [GX.out]
        rintro e w1 ⟨rfl, hb⟩
        go_wp2_with fail
        refine (l26Set_any _ ns _ (Ints.mono hn hb)).mono ?_
        rw [GS.out]
        rintro e w2 ⟨rfl, hq⟩
        go_wp2_with fail
        refine (l26Shift_any true _ _ GB.out).mono ?_
        rintro e w3 ⟨rfl, rfl⟩
        go_wp2
        go_ret
        exact ⟨rfl, hb.trans (hq.below _)⟩
      · rw [ask_b gx gs gb]
        have GS := Lib.hid gs; have GB := Lib.hid (noB gb); clear gs gx gb
        go_enter Try.func41, Try.ntmps41
        go_wp2_with fail
        refine (l25Ok_any _ lv x _ h).mono ?_
        rw [GX.out]
        rintro e w1 ⟨rfl, hb⟩
        go_wp2_with fail
        refine (l26Set_any _ ns _ (Ints.mono hn hb)).mono ?_
        rw [GS.out]
        rintro e w2 ⟨rfl, hq⟩
        go_wp2_with fail
        refine (l26Shift_any false _ _ GB.out).mono ?_
        rintro e w3 ⟨rfl, rfl⟩
        go_wp2
        go_ret
        exact ⟨rfl, hb.trans (hq.below _)⟩
  · rw [ask_x gx]
    have GX := Lib.hid (show validTunB x = false by simpa using gx); clear gx
    go_enter Try.func41, Try.ntmps41
    go_wp2_with fail
    refine (l25Ok_any _ lv x _ h).mono ?_
    rw [GX.out]
    rintro e w1 ⟨rfl, hb⟩
    go_wp2
    go_ret
    exact ⟨rfl, hb⟩

set_option maxHeartbeats 1000000 in
theorem arranged_any (vt lv v : Value) (x : TunD) (ns : List Int) (b : Int) (w : World) (h : Tun w vt lv x) (hx : x.name.size ≤ maxLen) (hn : Ints w v ns) :
    Calls Try.prog 44 #[vt, v, .int .i64 b] w fun e w' => e = .returned (.int .i64 (askC x ns b)) ∧ Below w.heap.size w w' := by
  obtain ⟨a1, c1, rfl, _, _, _⟩ := id hn
  obtain ⟨rfl, hlv⟩ := h
  by_cases gx : validTunB x = true
  · have GX := Lib.hid gx
    cases gs : validSet ns
    · rw [ask_s gx (by rw [gs]; exact Bool.false_ne_true)]
      have GS := Lib.hid gs; clear gs gx
      go_enter Try.func44, Try.ntmps44
      go_wp2_with fail
      refine (implValidTun_any _ lv x _ ⟨rfl, hlv.mono (by (repeat (first | with_reducible exact Below.refl _ _ | with_reducible exact hbw | (with_reducible refine Below.setCell ?_ ?_ _; rotate_left; · first | exact Nat.le_refl _ | omega | (simp; done) | (simp; omega)) | (with_reducible refine Below.alloc ?_ ?_ _; rotate_left; · first | exact Nat.le_refl _ | omega | (simp; done) | (simp; omega)) | with_reducible refine below_drewN ?_ _ | with_reducible refine Below.drew ?_)))⟩ hx).mono ?_
      rw [GX.out]
      rintro e w1 ⟨rfl, hb⟩
      have hbw : Below w.heap.size w w1 := Below.trans (by (repeat (first | with_reducible exact Below.refl _ _ | with_reducible exact hbw | (with_reducible refine Below.setCell ?_ ?_ _; rotate_left; · first | exact Nat.le_refl _ | omega | (simp; done) | (simp; omega)) | (with_reducible refine Below.alloc ?_ ?_ _; rotate_left; · first | exact Nat.le_refl _ | omega | (simp; done) | (simp; omega)) | with_reducible refine below_drewN ?_ _ | with_reducible refine Below.drew ?_))) (hb.mono (by simp <;> omega))
      go_wp2_with fail
      refine (implValidSet_any _ ns _ (Ints.mono hn hbw)).mono ?_
      rw [GS.out]
      rintro e w2 ⟨rfl, hq⟩
      go_wp2
      go_ret
      exact ⟨rfl, hbw.trans (hq.below _)⟩
    · by_cases gb : shiftIn b
      · rw [ask_ok gx gs gb]
        have GS := Lib.hid gs; have GB := Lib.hid (yesB gb); clear gs gx gb
        go_enter Try.func44, Try.ntmps44
        go_wp2_with fail
        refine (implValidTun_any _ lv x _ ⟨rfl, hlv.mono (by (repeat (first | with_reducible exact Below.refl _ _ | with_reducible exact hbw | (with_reducible refine Below.setCell ?_ ?_ _; rotate_left; · first | exact Nat.le_refl _ | omega | (simp; done) | (simp; omega)) | (with_reducible refine Below.alloc ?_ ?_ _; rotate_left; · first | exact Nat.le_refl _ | omega | (simp; done) | (simp; omega)) | with_reducible refine below_drewN ?_ _ | with_reducible refine Below.drew ?_)))⟩ hx).mono ?_
        rw [GX.out]
        rintro e w1 ⟨rfl, hb⟩
        have hbw : Below w.heap.size w w1 := Below.trans (by (repeat (first | with_reducible exact Below.refl _ _ | with_reducible exact hbw | (with_reducible refine Below.setCell ?_ ?_ _; rotate_left; · first | exact Nat.le_refl _ | omega | (simp; done) | (simp; omega)) | (with_reducible refine Below.alloc ?_ ?_ _; rotate_left; · first | exact Nat.le_refl _ | omega | (simp; done) | (simp; omega)) | with_reducible refine below_drewN ?_ _ | with_reducible refine Below.drew ?_))) (hb.mono (by simp <;> omega))
        go_wp2_with fail
        refine (implValidSet_any _ ns _ (Ints.mono hn hbw)).mono ?_
        rw [GS.out]
        rintro e w2 ⟨rfl, hq⟩
        go_wp2_with fail
        refine (isShift_any true _ _ GB.out).mono ?_
        rintro e w3 ⟨rfl, rfl⟩
        go_wp2
        go_ret
        exact ⟨rfl, hbw.trans (hq.below _)⟩
      · rw [ask_b gx gs gb]
        have GS := Lib.hid gs; have GB := Lib.hid (noB gb); clear gs gx gb
        go_enter Try.func44, Try.ntmps44
        go_wp2_with fail
        refine (implValidTun_any _ lv x _ ⟨rfl, hlv.mono (by (repeat (first | with_reducible exact Below.refl _ _ | with_reducible exact hbw | (with_reducible refine Below.setCell ?_ ?_ _; rotate_left; · first | exact Nat.le_refl _ | omega | (simp; done) | (simp; omega)) | (with_reducible refine Below.alloc ?_ ?_ _; rotate_left; · first | exact Nat.le_refl _ | omega | (simp; done) | (simp; omega)) | with_reducible refine below_drewN ?_ _ | with_reducible refine Below.drew ?_)))⟩ hx).mono ?_
        rw [GX.out]
        rintro e w1 ⟨rfl, hb⟩
        have hbw : Below w.heap.size w w1 := Below.trans (by (repeat (first | with_reducible exact Below.refl _ _ | with_reducible exact hbw | (with_reducible refine Below.setCell ?_ ?_ _; rotate_left; · first | exact Nat.le_refl _ | omega | (simp; done) | (simp; omega)) | (with_reducible refine Below.alloc ?_ ?_ _; rotate_left; · first | exact Nat.le_refl _ | omega | (simp; done) | (simp; omega)) | with_reducible refine below_drewN ?_ _ | with_reducible refine Below.drew ?_))) (hb.mono (by simp <;> omega))
        go_wp2_with fail
        refine (implValidSet_any _ ns _ (Ints.mono hn hbw)).mono ?_
        rw [GS.out]
        rintro e w2 ⟨rfl, hq⟩
        go_wp2_with fail
        refine (isShift_any false _ _ GB.out).mono ?_
        rintro e w3 ⟨rfl, rfl⟩
        go_wp2
        go_ret
        exact ⟨rfl, hbw.trans (hq.below _)⟩
  · rw [ask_x gx]
    have GX := Lib.hid (show validTunB x = false by simpa using gx); clear gx
    go_enter Try.func44, Try.ntmps44
    go_wp2_with fail
    refine (implValidTun_any _ lv x _ ⟨rfl, hlv.mono (by (repeat (first | with_reducible exact Below.refl _ _ | with_reducible exact hbw | (with_reducible refine Below.setCell ?_ ?_ _; rotate_left; · first | exact Nat.le_refl _ | omega | (simp; done) | (simp; omega)) | (with_reducible refine Below.alloc ?_ ?_ _; rotate_left; · first | exact Nat.le_refl _ | omega | (simp; done) | (simp; omega)) | with_reducible refine below_drewN ?_ _ | with_reducible refine Below.drew ?_)))⟩ hx).mono ?_
    rw [GX.out]
    rintro e w1 ⟨rfl, hb⟩
    have hbw : Below w.heap.size w w1 := Below.trans (by (repeat (first | with_reducible exact Below.refl _ _ | with_reducible exact hbw | (with_reducible refine Below.setCell ?_ ?_ _; rotate_left; · first | exact Nat.le_refl _ | omega | (simp; done) | (simp; omega)) | (with_reducible refine Below.alloc ?_ ?_ _; rotate_left; · first | exact Nat.le_refl _ | omega | (simp; done) | (simp; omega)) | with_reducible refine below_drewN ?_ _ | with_reducible refine Below.drew ?_))) (hb.mono (by simp <;> omega))
    go_wp2
    go_ret
    exact ⟨rfl, hbw⟩

end Go.Proofs.Ytemmnjokojgjaaa
