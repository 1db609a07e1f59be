/- The law FnExactSameTune returns true and leaves memory as it was. -/
import Derived.Test.YtfnbjegbaobpnaaTun
set_option linter.unusedSimpArgs false
set_option linter.unusedVariables false
namespace Go.Proofs.Ytfnbjegbaobpnaa
open Go.RowKit

set_option maxHeartbeats 1000000 in
theorem lawSameTune (w : World) (v1 : Value) (y1 : Value × TunD) (h1 : Tun w v1 y1.1 y1.2) (ok1 : y1.2.ok) (v2 : Value) (y2 : Value × TunD) (h2 : Tun w v2 y2.1 y2.2) (ok2 : y2.2.ok) :
    Calls Try.prog 3 #[v1, v2] w fun e w' => e = .returned (.bool true) ∧ Below w.heap.size w w' := by
  obtain ⟨l1, x⟩ := y1
  obtain ⟨l2, y⟩ := y2
  obtain ⟨rfl, hl1⟩ := h1
  obtain ⟨rfl, hl2⟩ := h2
  simp only at hl1 hl2
  have k1 := ok1.1
  have k2 := ok2.1
  simp only at k1 k2
  clear ok1 ok2
  by_cases g1 : x.name.size + x.tones.length ≤ 1048576
  · by_cases g2 : x.name.size + x.tones.length + y.name.size + y.tones.length ≤ 1048576
    · go_enter Try.func3, Try.ntmps3
      go_wp2_with fail
      refine (szTun_any _ l1 x 1048576 _ ⟨rfl, hl1.mono (by (repeat (first | with_reducible exact Below.refl _ _ | with_reducible exact hbw | (with_reducible refine Below.setCell ?_ ?_ _; rotate_left; · first | exact Nat.le_refl _ | omega | (simp; done) | (simp; omega)) | (with_reducible refine Below.alloc ?_ ?_ _; rotate_left; · first | exact Nat.le_refl _ | omega | (simp; done) | (simp; omega)) | with_reducible refine below_drewN ?_ _ | with_reducible refine Below.drew ?_)))⟩ k1 (by omega) (by omega)).mono ?_
      rw [leftTun, if_neg (by omega)]
      rintro e w1 ⟨rfl, hb1⟩
      obtain ⟨hc1, hf1⟩ := bcell hb1
      have hz1 : w.heap.size + 1 + 1 ≤ w1.heap.size := by have := hb1.size; simp at this; omega
      have hbw1 : Below w.heap.size w w1 := Below.trans (by (repeat (first | with_reducible exact Below.refl _ _ | with_reducible exact hbw | (with_reducible refine Below.setCell ?_ ?_ _; rotate_left; · first | exact Nat.le_refl _ | omega | (simp; done) | (simp; omega)) | (with_reducible refine Below.alloc ?_ ?_ _; rotate_left; · first | exact Nat.le_refl _ | omega | (simp; done) | (simp; omega)) | with_reducible refine below_drewN ?_ _ | with_reducible refine Below.drew ?_))) (hb1.mono (by simp <;> omega))
      go_wp2_with fail
      have hb1 : w.heap.size < w1.heap.size := by omega
      have hb1' : w.heap.size + 1 < w1.heap.size := by omega
      refine (szTun_any _ l2 y (1048576 - x.name.size - x.tones.length) _ ⟨rfl, (hl2.mono hbw1)⟩ k2 (by omega) (by omega)).mono ?_
      rw [leftTun, if_neg (by omega)]
      rintro e w2 ⟨rfl, hb2⟩
      obtain ⟨hc2, hf2⟩ := bcell hb2
      have hz2 := hb2.size
      have hbw2 : Below w.heap.size w w2 := hbw1.trans (hb2.mono hbw1.size)
      have s20 : w.heap.size < w2.heap.size := by omega
      have s21 : w.heap.size + 1 < w2.heap.size := by omega
      go_wp2_with fail
      refine wp_region_ord [(0, true), (2, true), (1, false), (3, false), (4, false), (5, true)] (none) (by kernel_rfl) (by kernel_rfl) ?_
      (repeat (refine wpOrd_soft (fun K hK => ?_); simp only [List.getElem?_toArray, List.getElem?_cons_zero, List.getElem?_cons_succ]; go_simp; refine hK _ ?_; clear hK K))
      (refine wpOrd_hard ?_; simp only [List.getElem?_toArray, List.getElem?_cons_zero, List.getElem?_cons_succ])
      go_wp2_with fail
      refine (toTun_any _ l1 x _ ⟨rfl, hl1.mono hbw2.drew⟩ (by omega)).mono ?_
      rintro e w3 ⟨m1, rfl, ho3, hb3⟩
      have hb3 : Below w2.heap.size w2 w3 := undrew hb3
      have hbw3 := hbw2.trans (hb3.mono hbw2.size)
      obtain ⟨am1, cm1, rfl⟩ := owns_slice ho3
      go_wp2_with fail
      refine ⟨grown_of_below hb3, ?_⟩
      (refine wpOrd_hard ?_; simp only [List.getElem?_toArray, List.getElem?_cons_zero, List.getElem?_cons_succ])
      go_wp2_with fail
      refine (toTun_any _ l2 y _ ⟨rfl, hl2.mono hbw3⟩ (by omega)).mono ?_
      rintro e w4 ⟨m2, rfl, ho4, hb4⟩
      obtain ⟨am2, cm2, rfl⟩ := owns_slice ho4
      have hbw4 := hbw3.trans (hb4.mono hbw3.size)
      go_wp2_with fail
      refine ⟨grown_of_below (hb3.trans (hb4.mono hb3.size)), ?_⟩
      (refine wpOrd_hard ?_; simp only [List.getElem?_toArray, List.getElem?_cons_zero, List.getElem?_cons_succ])
      go_wp2_with fail
      refine (specSameTun_any _ _ _ _ x y _ ⟨rfl, (Tons.of_owns ho3).mono hb4⟩ ⟨rfl, Tons.of_owns ho4⟩).mono ?_
      rintro e w5 ⟨rfl, hb5⟩
      have hbw5 := hbw4.trans (hb5.mono hbw4.size)
      go_wp2_with fail
      have hb25 : Below w2.heap.size w2 w5 := (hb3.trans (hb4.mono hb3.size)).trans (hb5.mono (hb3.trans (hb4.mono hb3.size)).size)
      refine ⟨grown_of_below hb25, ?_⟩
      (repeat (refine wpOrd_soft (fun K hK => ?_); simp only [List.getElem?_toArray, List.getElem?_cons_zero, List.getElem?_cons_succ]; go_simp; refine hK _ ?_; clear hK K))
      refine wpOrd_nil (NoPanic.normal ?_)
      obtain ⟨hc5, hf5⟩ := bcell hb25
      have s5 := hb25.size
      have s50 : w.heap.size < w5.heap.size := by omega
      have s51 : w.heap.size + 1 < w5.heap.size := by omega
      clear ho3 ho4 hb3 hb4 hb5 hbw3 hbw4
      go_wp2_with fail
      refine (toTun_any _ l1 x _ ⟨rfl, hl1.mono hbw5⟩ (by omega)).mono ?_
      rintro e w6 ⟨m1, rfl, ho6, hb6⟩
      obtain ⟨am1, cm1, rfl⟩ := owns_slice ho6
      have hbw6 := hbw5.trans (hb6.mono hbw5.size)
      obtain ⟨hc6, hf6⟩ := bcell hb6
      have s6 := hb6.size
      have s60 : w.heap.size < w6.heap.size := by omega
      have s61 : w.heap.size + 1 < w6.heap.size := by omega
      go_wp2_with fail
      refine (toTun_any _ l2 y _ ⟨rfl, hl2.mono (by have hbw := hbw6; (repeat (first | with_reducible exact Below.refl _ _ | with_reducible exact hbw | (with_reducible refine Below.setCell ?_ ?_ _; rotate_left; · first | exact Nat.le_refl _ | omega | (simp; done) | (simp; omega)) | (with_reducible refine Below.alloc ?_ ?_ _; rotate_left; · first | exact Nat.le_refl _ | omega | (simp; done) | (simp; omega)) | with_reducible refine below_drewN ?_ _ | with_reducible refine Below.drew ?_)))⟩ (by omega)).mono ?_
      rintro e w7 ⟨m2, rfl, ho7, hb7⟩
      obtain ⟨am2, cm2, rfl⟩ := owns_slice ho7
      have hbw7 : Below w.heap.size w w7 := Below.trans (by have hbw := hbw6; (repeat (first | with_reducible exact Below.refl _ _ | with_reducible exact hbw | (with_reducible refine Below.setCell ?_ ?_ _; rotate_left; · first | exact Nat.le_refl _ | omega | (simp; done) | (simp; omega)) | (with_reducible refine Below.alloc ?_ ?_ _; rotate_left; · first | exact Nat.le_refl _ | omega | (simp; done) | (simp; omega)) | with_reducible refine below_drewN ?_ _ | with_reducible refine Below.drew ?_))) (hb7.mono (by have := hbw6.size; simp; omega))
      obtain ⟨hc7, hf7⟩ := bcell hb7
      have s7 := hb7.size
      simp only [World.size_alloc] at s7
      have s70 : w.heap.size < w7.heap.size := by omega
      have s71 : w.heap.size + 1 < w7.heap.size := by omega
      have s72 : w6.heap.size < w7.heap.size := by omega
      go_wp2_with fail
      have hb67 : Below w6.heap.size w6 w7 := Below.trans ((Below.refl _ _).alloc (Nat.le_refl _) _) (hb7.mono (by simp))
      have L1 : Tons w7 (.slice am1 x.tones.length cm1) x.tones := (Tons.of_owns ho6).mono hb67
      have L2 : Tons w7 (.slice am2 y.tones.length cm2) y.tones := Tons.of_owns ho7
      refine (implSameTun_any _ _ _ _ x y _ ⟨rfl, L1.mono (by (repeat (first | with_reducible exact Below.refl _ _ | with_reducible exact hbw | (with_reducible refine Below.setCell ?_ ?_ _; rotate_left; · first | exact Nat.le_refl _ | omega | (simp; done) | (simp; omega)) | (with_reducible refine Below.alloc ?_ ?_ _; rotate_left; · first | exact Nat.le_refl _ | omega | (simp; done) | (simp; omega)) | with_reducible refine below_drewN ?_ _ | with_reducible refine Below.drew ?_)))⟩ ⟨rfl, L2.mono (by (repeat (first | with_reducible exact Below.refl _ _ | with_reducible exact hbw | (with_reducible refine Below.setCell ?_ ?_ _; rotate_left; · first | exact Nat.le_refl _ | omega | (simp; done) | (simp; omega)) | (with_reducible refine Below.alloc ?_ ?_ _; rotate_left; · first | exact Nat.le_refl _ | omega | (simp; done) | (simp; omega)) | with_reducible refine below_drewN ?_ _ | with_reducible refine Below.drew ?_)))⟩).mono ?_
      rintro e w8 ⟨rfl, hb8⟩
      have hbw8 : Below w.heap.size w w8 := Below.trans (by have hbw := hbw7; (repeat (first | with_reducible exact Below.refl _ _ | with_reducible exact hbw | (with_reducible refine Below.setCell ?_ ?_ _; rotate_left; · first | exact Nat.le_refl _ | omega | (simp; done) | (simp; omega)) | (with_reducible refine Below.alloc ?_ ?_ _; rotate_left; · first | exact Nat.le_refl _ | omega | (simp; done) | (simp; omega)) | with_reducible refine below_drewN ?_ _ | with_reducible refine Below.drew ?_))) (hb8.mono (by have := hbw7.size; simp; omega))
      have hb78 : Below w7.heap.size w7 w8 := Below.trans ((Below.refl _ _).alloc (Nat.le_refl _) _) (hb8.mono (by simp))
      obtain ⟨hc8, hf8⟩ := bcell hb8
      have s8 := hb8.size
      simp only [World.size_alloc] at s8
      have s80 : w.heap.size < w8.heap.size := by omega
      have s81 : w.heap.size + 1 < w8.heap.size := by omega
      have s82 : w6.heap.size < w8.heap.size := by omega
      have s83 : w7.heap.size < w8.heap.size := by omega
      have L1 := L1.mono hb78
      have L2 := L2.mono hb78
      clear ho6 ho7 hb6 hb7 hb67 hb78 hb8 hb25
      go_wp2_with fail
      refine wp_region_ord [(0, true), (1, true), (2, false), (3, false), (4, true)] (none) (by kernel_rfl) (by kernel_rfl) ?_
      (repeat (refine wpOrd_soft (fun K hK => ?_); simp only [List.getElem?_toArray, List.getElem?_cons_zero, List.getElem?_cons_succ]; go_simp; refine hK _ ?_; clear hK K))
      (refine wpOrd_hard ?_; simp only [List.getElem?_toArray, List.getElem?_cons_zero, List.getElem?_cons_succ])
      go_wp2_with fail
      refine (toTun_any _ l1 x _ ⟨rfl, hl1.mono hbw8.drew⟩ (by omega)).mono ?_
      rintro e w9 ⟨m1, rfl, ho9, hb9⟩
      have hb9 : Below w8.heap.size w8 w9 := undrew hb9
      have hbw9 := hbw8.trans (hb9.mono hbw8.size)
      obtain ⟨am3, cm3, rfl⟩ := owns_slice ho9
      go_wp2_with fail
      refine ⟨grown_of_below hb9, ?_⟩
      (refine wpOrd_hard ?_; simp only [List.getElem?_toArray, List.getElem?_cons_zero, List.getElem?_cons_succ])
      go_wp2_with fail
      refine (eqTun_any _ _ _ _ x x _ ⟨rfl, L1.mono hb9⟩ ⟨rfl, Tons.of_owns ho9⟩).mono ?_
      rintro e w10 ⟨rfl, hb10⟩
      have hxx : decide (x = x) = true := by simp
      have hb810 := hb9.trans (hb10.mono hb9.size)
      have hbw10 := hbw8.trans (hb810.mono hbw8.size)
      go_wp2_with fail
      refine ⟨grown_of_below hb810, ?_⟩
      (repeat (refine wpOrd_soft (fun K hK => ?_); simp only [List.getElem?_toArray, List.getElem?_cons_zero, List.getElem?_cons_succ]; go_simp; refine hK _ ?_; clear hK K))
      refine wpOrd_nil (NoPanic.normal ?_)
      obtain ⟨hc10, hf10⟩ := bcell hb810
      have s10 := hb810.size
      have s100 : w.heap.size < w10.heap.size := by omega
      have s101 : w.heap.size + 1 < w10.heap.size := by omega
      have s102 : w6.heap.size < w10.heap.size := by omega
      have s103 : w7.heap.size < w10.heap.size := by omega
      have L2 := L2.mono hb810
      clear ho9 hb9 hb10 hb810 hbw9
      go_wp2_with fail
      refine wp_region_ord [(0, true), (1, true), (2, false), (3, false), (4, true)] (none) (by kernel_rfl) (by kernel_rfl) ?_
      (repeat (refine wpOrd_soft (fun K hK => ?_); simp only [List.getElem?_toArray, List.getElem?_cons_zero, List.getElem?_cons_succ]; go_simp; refine hK _ ?_; clear hK K))
      (refine wpOrd_hard ?_; simp only [List.getElem?_toArray, List.getElem?_cons_zero, List.getElem?_cons_succ])
      go_wp2_with fail
      refine (toTun_any _ l2 y _ ⟨rfl, hl2.mono hbw10.drew⟩ (by omega)).mono ?_
      rintro e w11 ⟨m2, rfl, ho11, hb11⟩
      have hb11 : Below w10.heap.size w10 w11 := undrew hb11
      have hbw11 := hbw10.trans (hb11.mono hbw10.size)
      obtain ⟨am4, cm4, rfl⟩ := owns_slice ho11
      go_wp2_with fail
      refine ⟨grown_of_below hb11, ?_⟩
      (refine wpOrd_hard ?_; simp only [List.getElem?_toArray, List.getElem?_cons_zero, List.getElem?_cons_succ])
      go_wp2_with fail
      refine (eqTun_any _ _ _ _ y y _ ⟨rfl, L2.mono hb11⟩ ⟨rfl, Tons.of_owns ho11⟩).mono ?_
      rintro e w12 ⟨rfl, hb12⟩
      have hyy : decide (y = y) = true := by simp
      have hb1012 := hb11.trans (hb12.mono hb11.size)
      have hbw12 := hbw10.trans (hb1012.mono hbw10.size)
      go_wp2_with fail
      refine ⟨grown_of_below hb1012, ?_⟩
      (repeat (refine wpOrd_soft (fun K hK => ?_); simp only [List.getElem?_toArray, List.getElem?_cons_zero, List.getElem?_cons_succ]; go_simp; refine hK _ ?_; clear hK K))
      refine wpOrd_nil (NoPanic.normal ?_)
      go_wp2
      go_ret
      exact ⟨rfl, hbw12⟩
    · go_enter Try.func3, Try.ntmps3
      go_wp2_with fail
      refine (szTun_any _ l1 x 1048576 _ ⟨rfl, hl1.mono (by (repeat (first | with_reducible exact Below.refl _ _ | with_reducible exact hbw | (with_reducible refine Below.setCell ?_ ?_ _; rotate_left; · first | exact Nat.le_refl _ | omega | (simp; done) | (simp; omega)) | (with_reducible refine Below.alloc ?_ ?_ _; rotate_left; · first | exact Nat.le_refl _ | omega | (simp; done) | (simp; omega)) | with_reducible refine below_drewN ?_ _ | with_reducible refine Below.drew ?_)))⟩ k1 (by omega) (by omega)).mono ?_
      rw [leftTun, if_neg (by omega)]
      rintro e w1 ⟨rfl, hb1⟩
      obtain ⟨hc1, hf1⟩ := bcell hb1
      have hz1 : w.heap.size + 1 + 1 ≤ w1.heap.size := by have := hb1.size; simp at this; omega
      have hbw1 : Below w.heap.size w w1 := Below.trans (by (repeat (first | with_reducible exact Below.refl _ _ | with_reducible exact hbw | (with_reducible refine Below.setCell ?_ ?_ _; rotate_left; · first | exact Nat.le_refl _ | omega | (simp; done) | (simp; omega)) | (with_reducible refine Below.alloc ?_ ?_ _; rotate_left; · first | exact Nat.le_refl _ | omega | (simp; done) | (simp; omega)) | with_reducible refine below_drewN ?_ _ | with_reducible refine Below.drew ?_))) (hb1.mono (by simp <;> omega))
      go_wp2_with fail
      have hb1 : w.heap.size < w1.heap.size := by omega
      have hb1' : w.heap.size + 1 < w1.heap.size := by omega
      refine (szTun_any _ l2 y (1048576 - x.name.size - x.tones.length) _ ⟨rfl, (hl2.mono hbw1)⟩ k2 (by omega) (by omega)).mono ?_
      rw [leftTun, if_pos (by omega)]
      rintro e w2 ⟨rfl, hb2⟩
      have hbw2 : Below w.heap.size w w2 := hbw1.trans (hb2.mono hbw1.size)
      go_wp2
      go_ret
      exact ⟨rfl, hbw2⟩
  · go_enter Try.func3, Try.ntmps3
    go_wp2_with fail
    refine (szTun_any _ l1 x 1048576 _ ⟨rfl, hl1.mono (by (repeat (first | with_reducible exact Below.refl _ _ | with_reducible exact hbw | (with_reducible refine Below.setCell ?_ ?_ _; rotate_left; · first | exact Nat.le_refl _ | omega | (simp; done) | (simp; omega)) | (with_reducible refine Below.alloc ?_ ?_ _; rotate_left; · first | exact Nat.le_refl _ | omega | (simp; done) | (simp; omega)) | with_reducible refine below_drewN ?_ _ | with_reducible refine Below.drew ?_)))⟩ k1 (by omega) (by omega)).mono ?_
    rw [leftTun, if_pos (by omega)]
    rintro e w1 ⟨rfl, hb1⟩
    have hbw1 : Below w.heap.size w w1 := Below.trans (by (repeat (first | with_reducible exact Below.refl _ _ | with_reducible exact hbw | (with_reducible refine Below.setCell ?_ ?_ _; rotate_left; · first | exact Nat.le_refl _ | omega | (simp; done) | (simp; omega)) | (with_reducible refine Below.alloc ?_ ?_ _; rotate_left; · first | exact Nat.le_refl _ | omega | (simp; done) | (simp; omega)) | with_reducible refine below_drewN ?_ _ | with_reducible refine Below.drew ?_))) (hb1.mono (by simp <;> omega))
    go_wp2
    go_ret
    exact ⟨rfl, hbw1⟩

end Go.Proofs.Ytfnbjegbaobpnaa
