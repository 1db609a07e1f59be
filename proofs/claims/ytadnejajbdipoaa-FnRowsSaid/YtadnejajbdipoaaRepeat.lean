/- Contracts of FirstRepeat of both packages. -/
import Derived.Test.YtadnejajbdipoaaRowss
import Derived.Test.YtadnejajbdipoaaOrd
set_option linter.unusedSimpArgs false
set_option linter.unnecessarySimpa false
set_option linter.unusedVariables false
set_option maxRecDepth 100000
namespace Go.Proofs.Ytadnejajbdipoaa
open Go.RowKit

/-- The first of the rows from k on that stands before, or -1. -/
def frFrom (xs : List (List Int)) : Nat → Nat → Int
  | 0, _ => -1
  | f + 1, k => if (xs.take k).any (fun o => decide (xs.getD k [] = o)) = true then (k : Int) else frFrom xs f (k + 1)
noncomputable def frV (xs : List (List Int)) : Int := if rowsB xs = true then frFrom xs xs.length 0 else 0
noncomputable def frC (xs : List (List Int)) : Int := if rowsB xs = true then 0 else 1
theorem fr_yes {xs : List (List Int)} (h : rowsB xs = true) : frV xs = frFrom xs xs.length 0 ∧ frC xs = 0 := ⟨if_pos h, if_pos h⟩
theorem fr_no {xs : List (List Int)} (h : rowsB xs = false) : frV xs = 0 ∧ frC xs = 1 := by unfold frV frC; rw [h]; exact ⟨rfl, rfl⟩
theorem fr_hit {xs : List (List Int)} {f k : Nat} (h : (xs.take k).any (fun o => decide (xs.getD k [] = o)) = true) : frFrom xs (f + 1) k = (k : Int) := if_pos h
theorem fr_next {xs : List (List Int)} {f k : Nat} (h : (xs.take k).any (fun o => decide (xs.getD k [] = o)) = false) : frFrom xs (f + 1) k = frFrom xs f (k + 1) := if_neg (by rw [h]; exact Bool.false_ne_true)
theorem getD_at {xs : List (List Int)} {k : Nat} (h : k < xs.length) : xs.getD k [] = xs[k] := by simp [h]
theorem take_at {xs : List (List Int)} {k j : Nat} (hk : k ≤ xs.length) (hj : j < (xs.take k).length) (hj2 : j < xs.length) : (xs.take k)[j] = xs[j] := List.getElem_take

set_option maxHeartbeats 1000000 in
theorem specFirstRepeat_any (v : Value) (xs : List (List Int)) (w : World) (h : RdIntss w v xs) (ok : okIntss xs) (hs : szIntss xs ≤ 1048576) :
    Calls Try.prog 16 #[v] w fun e w' => e = .returned (.tuple #[.int .i64 (frV xs), .int .i64 (frC xs)]) ∧ Below w.heap.size w w' := by
  obtain ⟨a, ca, rfl, _, hm⟩ := h.form'
  have hsl := szIntss_len xs
  unfold maxLen at hm
  cases g : rowsB xs
  · obtain ⟨e1, e2⟩ := fr_no g
    rw [e1, e2]
    have G := Lib.hid g; clear g e1 e2
    go_enter Try.func16, Try.ntmps16
    go_wp2_with fail
    refine (l27Rows_any _ xs _ h).mono ?_
    rw [G.out]
    rintro e w1 ⟨rfl, hb1⟩
    go_wp2
    go_ret2
    exact ⟨rfl, hb1⟩
  · obtain ⟨e1, e2⟩ := fr_yes g
    have E1 := Lib.hid e1; have E2 := Lib.hid e2; have G := Lib.hid g; clear g e1 e2
    go_enter Try.func16, Try.ntmps16
    go_wp2_with fail
    refine (l27Rows_any _ xs _ h).mono ?_
    rw [G.out]
    rintro e w1 ⟨rfl, hb1⟩
    go_wp2_with fail
    go_loopw [4, 5] (fun i _ wr => ∃ k f : Nat, k + f = xs.length ∧ i = .int .i64 (k : Int) ∧ frFrom xs xs.length 0 = frFrom xs f k ∧ Below w.heap.size w wr) (fun i _ _ => xs.length - (intOf i).toNat)
    case atStart => exact ⟨0, xs.length, by omega, by go_num, rfl, hb1⟩
    case round =>
      obtain ⟨k, f, hkf, rfl, hf, hb⟩ := hrel
      have HF := Lib.hid hf; clear hf
      obtain ⟨wo, hwo⟩ : ∃ wo : World, wo = wr := ⟨_, rfl⟩
      subst hwo
      rcases f with _ | f
      · obtain rfl : k = xs.length := by omega
        have HX := Lib.hid (show frV xs = -1 by rw [E1.out, HF.out]; rfl)
        go_wp2
        go_ret2
        exact ⟨by rw [HX.out, E2.out]; rfl, hb⟩
      · have hlt : k < xs.length := by omega
        go_wp2_with fail
        go_loopw [5] (fun i wr => ∃ j : Nat, j ≤ k ∧ i = .int .i64 (j : Int) ∧ ((xs.take k).take j).any (fun o => decide (xs.getD k [] = o)) = false ∧ Below w.heap.size w wr) (fun i _ => k - (intOf i).toNat)
        case atStart => exact ⟨0, Nat.zero_le _, by go_num, rfl, hb⟩
        case round =>
          obtain ⟨j, hj, rfl, ht, hb⟩ := hrel
          have HT := Lib.hid ht; clear ht
          by_cases hjk : j < k
          · have hj2 : j < xs.length := by omega
            obtain ⟨b1, o1, lv, c1, rfl, hB, u0, uv⟩ := (h.mono hb).at hlt
            obtain ⟨b2, o2, lv2, c2, e2, hB2, z0, zv⟩ := (h.mono hb).at hj2
            cases e2
            have hj3 : j < (xs.take k).length := by rw [List.length_take]; omega
            have n0 : ∀ o x, (ext wr.drew none x).cell? ⟨b1, o, none⟩ = wr.cell? ⟨b1, o, none⟩ := fun o x => cell?_ext (w := wr.drew) hB (by simp)
            by_cases he : xs[k] = xs[j]
            · have de : decide (xs[k] = xs[j]) = true := by simpa using he
              have HX := Lib.hid (show frV xs = (k : Int) by rw [E1.out, HF.out, fr_hit]; exact any_hit hj3 (by rw [getD_at hlt, take_at (by omega) hj3 hj2]; exact de))
              clear he
              go_wp2_with fail
              refine wp_region_ord [(0, true), (1, true), (2, true), (3, true), (4, true), (5, true), (6, true), (7, true), (8, false)] (none) (by kernel_rfl) (by kernel_rfl) ?_
              (repeat (with_reducible refine wpOrd_soft (fun K hK => ?_); simp only [List.getElem?_toArray, List.getElem?_cons_zero, List.getElem?_cons_succ]; first | (go_simp; refine hK _ ?_) | (simp only [undef]; go_simp; refine hK _ ?_); clear hK K))
              (with_reducible refine wpOrd_hard ?_; simp only [List.getElem?_toArray, List.getElem?_cons_zero, List.getElem?_cons_succ])
              go_wp2_with fail
              refine (l00Same_any _ _ xs[k] xs[j] _ (uv.mono (by (repeat (first | with_reducible exact Below.refl _ _ | with_reducible exact hbw | (with_reducible refine Below.setCell ?_ ?_ _; rotate_left; · first | exact Nat.le_refl _ | omega | (simp; done) | (simp; omega)) | (with_reducible refine Below.alloc ?_ ?_ _; rotate_left; · first | exact Nat.le_refl _ | omega | (simp; done) | (simp; omega)) | with_reducible refine below_drewN ?_ _ | with_reducible refine Below.drew ?_)))) (zv.mono (by (repeat (first | with_reducible exact Below.refl _ _ | with_reducible exact hbw | (with_reducible refine Below.setCell ?_ ?_ _; rotate_left; · first | exact Nat.le_refl _ | omega | (simp; done) | (simp; omega)) | (with_reducible refine Below.alloc ?_ ?_ _; rotate_left; · first | exact Nat.le_refl _ | omega | (simp; done) | (simp; omega)) | with_reducible refine below_drewN ?_ _ | with_reducible refine Below.drew ?_))))).mono ?_
              rw [de]
              rintro e w2 ⟨rfl, hq2⟩
              have hb3 := undrew (hq2.below wr.heap.size)
              clear hq2 de
              go_wp2_with fail
              refine ⟨grown_of_below hb3, ?_⟩
              (repeat (with_reducible refine wpOrd_soft (fun K hK => ?_); simp only [List.getElem?_toArray, List.getElem?_cons_zero, List.getElem?_cons_succ]; first | (go_simp; refine hK _ ?_) | (simp only [undef]; go_simp; refine hK _ ?_); clear hK K))
              (with_reducible refine wpOrd_nil ?_); refine NoPanic.normal ?_
              go_wp2
              go_ret2
              exact ⟨by rw [HX.out, E2.out]; rfl, hb.trans (hb3.mono hb.size)⟩
            · have de : decide (xs[k] = xs[j]) = false := by simpa using he
              have HX := Lib.hid (any_step hj3 HT.out (by rw [getD_at hlt, take_at (by omega) hj3 hj2]; exact de))
              clear he
              go_wp2_with fail
              refine wp_region_ord [(0, true), (1, true), (2, true), (3, true), (4, true), (5, true), (6, true), (7, true), (8, false)] (none) (by kernel_rfl) (by kernel_rfl) ?_
              (repeat (with_reducible refine wpOrd_soft (fun K hK => ?_); simp only [List.getElem?_toArray, List.getElem?_cons_zero, List.getElem?_cons_succ]; first | (go_simp; refine hK _ ?_) | (simp only [undef]; go_simp; refine hK _ ?_); clear hK K))
              (with_reducible refine wpOrd_hard ?_; simp only [List.getElem?_toArray, List.getElem?_cons_zero, List.getElem?_cons_succ])
              go_wp2_with fail
              refine (l00Same_any _ _ xs[k] xs[j] _ (uv.mono (by (repeat (first | with_reducible exact Below.refl _ _ | with_reducible exact hbw | (with_reducible refine Below.setCell ?_ ?_ _; rotate_left; · first | exact Nat.le_refl _ | omega | (simp; done) | (simp; omega)) | (with_reducible refine Below.alloc ?_ ?_ _; rotate_left; · first | exact Nat.le_refl _ | omega | (simp; done) | (simp; omega)) | with_reducible refine below_drewN ?_ _ | with_reducible refine Below.drew ?_)))) (zv.mono (by (repeat (first | with_reducible exact Below.refl _ _ | with_reducible exact hbw | (with_reducible refine Below.setCell ?_ ?_ _; rotate_left; · first | exact Nat.le_refl _ | omega | (simp; done) | (simp; omega)) | (with_reducible refine Below.alloc ?_ ?_ _; rotate_left; · first | exact Nat.le_refl _ | omega | (simp; done) | (simp; omega)) | with_reducible refine below_drewN ?_ _ | with_reducible refine Below.drew ?_))))).mono ?_
              rw [de]
              rintro e w2 ⟨rfl, hq2⟩
              have hb3 := undrew (hq2.below wr.heap.size)
              clear hq2 de
              go_wp2_with fail
              refine ⟨grown_of_below hb3, ?_⟩
              (repeat (with_reducible refine wpOrd_soft (fun K hK => ?_); simp only [List.getElem?_toArray, List.getElem?_cons_zero, List.getElem?_cons_succ]; first | (go_simp; refine hK _ ?_) | (simp only [undef]; go_simp; refine hK _ ?_); clear hK K))
              (with_reducible refine wpOrd_nil ?_); refine NoPanic.normal ?_
              go_wp2
              go_roundw
              case rel => exact ⟨j + 1, by omega, by go_num, HX.out, hb.trans (hb3.mono hb.size)⟩
              case measure => simp [intOf] <;> omega
          · obtain rfl : j = k := by omega
            have HX := Lib.hid (show frFrom xs xs.length 0 = frFrom xs f (j + 1) by rw [HF.out, fr_next]; have := HT.out; rwa [List.take_of_length_le (by rw [List.length_take]; omega)] at this)
            go_wp2
            go_roundw
            case rel => exact ⟨j + 1, f, by omega, by go_num, HX.out, hb⟩
            case measure => simp [intOf] <;> omega

theorem enters_fr (args : Array Value) (w : World) : Sem.run Try.prog (callFunc 48 args) w = .ok (.enter 48 args) w := by
  first | rfl | (simp [callFunc, go_sem]; done) | (go_simp; done)

set_option maxHeartbeats 1000000 in
theorem frep1_any (x y : List Int) (lv lx : Option Addr) (c cx q : Nat) (w : World) (hq : w.cell? ⟨q, 0, none⟩ = some (.slice lx x.length cx)) (hx : Ints w (.slice lx x.length cx) x) (hy : Ints w (.slice lv y.length c) y) :
    Calls Try.prog 48 #[.slice lv y.length c, .pointer (some ⟨q, 0, none⟩)] w fun e w' => e = .returned (.bool (decide (x = y))) ∧ Below w.heap.size w w' := by
  go_enter Try.func48, Try.ntmps48
  go_wp2_with fail
  refine (equalInts_any _ _ x y _ hx hy).mono ?_
  rintro e w1 ⟨rfl, hq1⟩
  go_wp2
  go_ret
  exact ⟨rfl, hq1.below _⟩

set_option maxHeartbeats 1000000 in
theorem implFirstRepeat_any (v : Value) (xs : List (List Int)) (w : World) (h : RdIntss w v xs) (ok : okIntss xs) (hs : szIntss xs ≤ 1048576) :
    Calls Try.prog 18 #[v] w fun e w' => e = .returned (.tuple #[.int .i64 (frV xs), .int .i64 (frC xs)]) ∧ Below w.heap.size w w' := by
  obtain ⟨a, ca, rfl, hca, hm⟩ := h.form'
  have hsl := szIntss_len xs
  unfold maxLen at hm
  cases g : rowsB xs
  · obtain ⟨e1, e2⟩ := fr_no g
    rw [e1, e2]
    have G := Lib.hid g; clear g e1 e2
    go_enter Try.func18, Try.ntmps18
    go_wp2_with fail
    refine (validRows_any _ xs _ h ok hs).mono ?_
    rw [G.out]
    rintro e w1 ⟨rfl, hb1⟩
    go_wp2
    go_ret2
    exact ⟨rfl, hb1⟩
  · obtain ⟨e1, e2⟩ := fr_yes g
    have E1 := Lib.hid e1; have E2 := Lib.hid e2; have G := Lib.hid g; clear g e1 e2
    go_enter Try.func18, Try.ntmps18
    go_wp2_with fail
    refine (validRows_any _ xs _ h ok hs).mono ?_
    rw [G.out]
    rintro e w1 ⟨rfl, hb1⟩
    go_wp2_with fail
    go_loopw [11, 4, 5] (fun i _ _ wr => ∃ k f : Nat, k + f = xs.length ∧ i = .int .i64 (k : Int) ∧ frFrom xs xs.length 0 = frFrom xs f k ∧ Below w.heap.size w wr) (fun i _ _ _ => xs.length - (intOf i).toNat)
    case atStart => exact ⟨0, xs.length, by omega, by go_num, rfl, hb1⟩
    case round =>
      obtain ⟨k, f, hkf, rfl, hf, hb⟩ := hrel
      have HF := Lib.hid hf; clear hf
      have hz := hb.size
      rcases f with _ | f
      · obtain rfl : k = xs.length := by omega
        have HX := Lib.hid (show frV xs = -1 by rw [E1.out, HF.out]; rfl)
        go_wp2
        go_ret2
        exact ⟨by rw [HX.out, E2.out]; rfl, hb⟩
      · have hlt : k < xs.length := by omega
        have hR := (h.mono hb)
        have HT := Lib.hid (hR.take (k := k) (by omega))
        obtain ⟨b1, o1, lx, cx, rfl, hB, u0, uv⟩ := hR.at hlt
        have kc : (k : Int) ≤ (ca : Int) := by omega
        have k0 : (0 : Int) ≤ (k : Int) := by omega
        have kz : ((k : Int)).toNat = k := by omega
        have hl : (xs.take k).length = k := by rw [List.length_take]; omega
        have HG := Lib.hid (getD_at hlt)
        have HL := Lib.hid hl; clear hl hR
        cases hA : (xs.take k).any (fun o => decide (xs[k] = o))
        · have HA := Lib.hid hA; clear hA
          have HX := Lib.hid (show frFrom xs xs.length 0 = frFrom xs f (k + 1) by rw [HF.out, fr_next]; rw [HG.out]; exact HA.out)
          go_wp2_with fail
          refine (anyL1_any 48 (.pointer (some ⟨wr.heap.size, 0, none⟩)) (fun o => decide (xs[k] = o)) _ (xs.take k) _ (HT.out.mono (by (repeat (first | with_reducible exact Below.refl _ _ | with_reducible exact hbw | (with_reducible refine Below.setCell ?_ ?_ _; rotate_left; · first | exact Nat.le_refl _ | omega | (simp; done) | (simp; omega)) | (with_reducible refine Below.alloc ?_ ?_ _; rotate_left; · first | exact Nat.le_refl _ | omega | (simp; done) | (simp; omega)) | with_reducible refine below_drewN ?_ _ | with_reducible refine Below.drew ?_)))) enters_fr (fun j hj lv c w2 hb2 hi => frep1_any xs[k] (xs.take k)[j] lv lx c cx _ w2 (cellB hb2 (by simp [go_sem])) ((uv.mono (by (repeat (first | with_reducible exact Below.refl _ _ | with_reducible exact hbw | (with_reducible refine Below.setCell ?_ ?_ _; rotate_left; · first | exact Nat.le_refl _ | omega | (simp; done) | (simp; omega)) | (with_reducible refine Below.alloc ?_ ?_ _; rotate_left; · first | exact Nat.le_refl _ | omega | (simp; done) | (simp; omega)) | with_reducible refine below_drewN ?_ _ | with_reducible refine Below.drew ?_)))).mono hb2) hi)).mono ?_
          rw [HA.out]
          rintro e w2 ⟨rfl, hb2⟩
          have hbw : Below wr.heap.size wr w2 := Below.trans (by (repeat (first | with_reducible exact Below.refl _ _ | with_reducible exact hbw | (with_reducible refine Below.setCell ?_ ?_ _; rotate_left; · first | exact Nat.le_refl _ | omega | (simp; done) | (simp; omega)) | (with_reducible refine Below.alloc ?_ ?_ _; rotate_left; · first | exact Nat.le_refl _ | omega | (simp; done) | (simp; omega)) | with_reducible refine below_drewN ?_ _ | with_reducible refine Below.drew ?_))) (hb2.mono (by simp <;> omega))
          have HB := Lib.hid (hb.trans (hbw.mono hz)); clear hb2 hbw
          go_wp2
          go_roundw
          case rel => exact ⟨k + 1, f, by omega, by go_num, HX.out, HB.out⟩
          case measure => simp [intOf] <;> omega
        · have HA := Lib.hid hA; clear hA
          have HX := Lib.hid (show frV xs = (k : Int) by rw [E1.out, HF.out, fr_hit]; rw [HG.out]; exact HA.out)
          go_wp2_with fail
          refine (anyL1_any 48 (.pointer (some ⟨wr.heap.size, 0, none⟩)) (fun o => decide (xs[k] = o)) _ (xs.take k) _ (HT.out.mono (by (repeat (first | with_reducible exact Below.refl _ _ | with_reducible exact hbw | (with_reducible refine Below.setCell ?_ ?_ _; rotate_left; · first | exact Nat.le_refl _ | omega | (simp; done) | (simp; omega)) | (with_reducible refine Below.alloc ?_ ?_ _; rotate_left; · first | exact Nat.le_refl _ | omega | (simp; done) | (simp; omega)) | with_reducible refine below_drewN ?_ _ | with_reducible refine Below.drew ?_)))) enters_fr (fun j hj lv c w2 hb2 hi => frep1_any xs[k] (xs.take k)[j] lv lx c cx _ w2 (cellB hb2 (by simp [go_sem])) ((uv.mono (by (repeat (first | with_reducible exact Below.refl _ _ | with_reducible exact hbw | (with_reducible refine Below.setCell ?_ ?_ _; rotate_left; · first | exact Nat.le_refl _ | omega | (simp; done) | (simp; omega)) | (with_reducible refine Below.alloc ?_ ?_ _; rotate_left; · first | exact Nat.le_refl _ | omega | (simp; done) | (simp; omega)) | with_reducible refine below_drewN ?_ _ | with_reducible refine Below.drew ?_)))).mono hb2) hi)).mono ?_
          rw [HA.out]
          rintro e w2 ⟨rfl, hb2⟩
          have hbw : Below wr.heap.size wr w2 := Below.trans (by (repeat (first | with_reducible exact Below.refl _ _ | with_reducible exact hbw | (with_reducible refine Below.setCell ?_ ?_ _; rotate_left; · first | exact Nat.le_refl _ | omega | (simp; done) | (simp; omega)) | (with_reducible refine Below.alloc ?_ ?_ _; rotate_left; · first | exact Nat.le_refl _ | omega | (simp; done) | (simp; omega)) | with_reducible refine below_drewN ?_ _ | with_reducible refine Below.drew ?_))) (hb2.mono (by simp <;> omega))
          have HB := Lib.hid (hb.trans (hbw.mono hz)); clear hb2 hbw
          go_wp2
          go_ret2
          exact ⟨by rw [HX.out, E2.out]; rfl, HB.out⟩

end Go.Proofs.Ytadnejajbdipoaa
