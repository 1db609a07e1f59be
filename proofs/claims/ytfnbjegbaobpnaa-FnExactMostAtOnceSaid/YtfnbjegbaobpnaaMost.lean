/- Contracts of MostAtOnce of both packages. -/
import Derived.Test.YtfnbjegbaobpnaaTuneEnd
set_option linter.unusedSimpArgs false
set_option linter.unnecessarySimpa false
set_option linter.unusedVariables false
namespace Go.Proofs.Ytfnbjegbaobpnaa
open Go.RowKit

def startAt (xs : List Ton) (k : Nat) : Int := (xs[k]?.map Ton.start).getD 0
theorem startAt_eq {xs : List Ton} {k : Nat} (h : k < xs.length) : startAt xs k = xs[k].start := by simp [startAt, h]
/-- How many of the first k tones, from the last one back, start with it. -/
def runAt (xs : List Ton) : Nat → Int
  | 0 => 0
  | k + 1 => (if 0 < k ∧ startAt xs k ≠ startAt xs (k - 1) then 0 else runAt xs k) + 1
def mostAt (xs : List Ton) : Nat → Int
  | 0 => 0
  | k + 1 => max (mostAt xs k) (runAt xs (k + 1))
theorem runAt_in (xs : List Ton) : ∀ k : Nat, 0 ≤ runAt xs k ∧ runAt xs k ≤ k
  | 0 => by simp [runAt]
  | k + 1 => by have := runAt_in xs k; simp only [runAt]; split <;> omega
theorem runAt_new {xs : List Ton} {k : Nat} (h : 0 < k) (hk : k < xs.length) (h2 : xs[k].start ≠ xs[k - 1].start) : runAt xs (k + 1) = 1 := by
  simp only [runAt]; rw [if_pos ⟨h, by rw [startAt_eq hk, startAt_eq (by omega)]; exact h2⟩]; rfl
theorem runAt_old {xs : List Ton} {k : Nat} (h : 0 < k) (hk : k < xs.length) (h2 : xs[k].start = xs[k - 1].start) : runAt xs (k + 1) = runAt xs k + 1 := by
  simp only [runAt]; rw [if_neg (fun hh => hh.2 (by rw [startAt_eq hk, startAt_eq (by omega)]; exact h2))]
theorem mostAt_step (xs : List Ton) (k : Nat) : mostAt xs (k + 1) = max (mostAt xs k) (runAt xs (k + 1)) := rfl
noncomputable def mostV (x : TunD) : Int := if validTunB x then mostAt x.tones x.tones.length else 0
set_option maxHeartbeats 2000000 in
theorem specMostAtOnce_any (v : Value) (x : TunD) (w : World) (h : RdTun w v x) (ok : x.ok) (_ : x.tones.length ≤ 1048576) :
    Calls Try.prog 24 #[v] w fun e w' => e = .returned (.tuple #[.int .i64 (mostV x), .int .i64 (tuneEndC x)]) ∧ Below w.heap.size w w' := by
  obtain ⟨lv, rfl, hlv⟩ := h
  obtain ⟨a, ca, rfl, hca, hcm, _⟩ := id hlv
  have hm : x.tones.length ≤ maxLen := by omega
  clear hca hcm
  unfold maxLen at hm
  unfold mostV tuneEndC
  by_cases g : TunOk x
  · have g' := validTunB_iff.2 g
    clear g
    rw [g']
    go_enter Try.func24, Try.ntmps24
    go_wp2_with fail
    refine (l25Ok_any _ _ x _ ⟨by simp [go_sem], by simp [go_sem], hlv.mono (by (repeat (first | with_reducible exact Below.refl _ _ | with_reducible exact hbw | (with_reducible refine Below.setCell ?_ ?_ _; rotate_left; · first | exact Nat.le_refl _ | omega | (simp; done) | (simp; omega)) | (with_reducible refine Below.alloc ?_ ?_ _; rotate_left; · first | exact Nat.le_refl _ | omega | (simp; done) | (simp; omega)) | with_reducible refine below_drewN ?_ _ | with_reducible refine Below.drew ?_))), ok.1⟩).mono ?_
    rw [g']
    rintro e w1 ⟨rfl, hb⟩
    have hbw : Below w.heap.size w w1 := Below.trans (by (repeat (first | with_reducible exact Below.refl _ _ | with_reducible exact hbw | (with_reducible refine Below.setCell ?_ ?_ _; rotate_left; · first | exact Nat.le_refl _ | omega | (simp; done) | (simp; omega)) | (with_reducible refine Below.alloc ?_ ?_ _; rotate_left; · first | exact Nat.le_refl _ | omega | (simp; done) | (simp; omega)) | with_reducible refine below_drewN ?_ _ | with_reducible refine Below.drew ?_))) (hb.mono (by simp <;> omega))
    have y0 : w1.cell? ⟨w.heap.size, 0, none⟩ = some (.string x.name) := cellB hb (by simp [go_sem])
    have y1 : w1.cell? ⟨w.heap.size, 1, none⟩ = some (.slice a x.tones.length ca) := cellB hb (by simp [go_sem])
    have hlv := hlv.mono hbw
    clear hb
    go_wp2_with fail
    go_loopw [4, 5, 6] (fun m r i wr => ∃ k : Nat, k ≤ x.tones.length ∧ i = .int .i64 k ∧ m = .int .i64 (mostAt x.tones k) ∧ r = .int .i64 (runAt x.tones k) ∧ Q w1 wr) (fun _ _ i _ => x.tones.length - (intOf i).toNat)
    case atStart => exact ⟨0, Nat.zero_le _, rfl, rfl, rfl, Q.refl _⟩
    case round =>
      obtain ⟨k, hk, rfl, rfl, rfl, hq⟩ := hrel
      have u0 := (hq.cell ⟨_, _, none⟩).trans y0
      have u1 := (hq.cell ⟨_, _, none⟩).trans y1
      have hs := World.block_lt_of_cell? _ _ u0
      simp only at hs
      by_cases hlt : k < x.tones.length
      · obtain ⟨b1, o1, rfl, hT⟩ := TonIn.of (hlv.q hq) hlt
        obtain ⟨lB, d0, d1, d2⟩ := hT
        have w1' : IntKind.i64.wrap (runAt x.tones k + 1) = runAt x.tones k + 1 := IntWalk.i64_in _ (by have := runAt_in x.tones k; omega)
        by_cases h0 : 0 < k
        · have hk1 : k - 1 < x.tones.length := by omega
          obtain ⟨b2, o2, e2, hT2⟩ := TonIn.of (hlv.q hq) hk1
          simp only [Option.some.injEq, Addr.mk.injEq, and_true] at e2
          obtain ⟨rfl, rfl⟩ := e2
          obtain ⟨lB2, f0, f1, f2⟩ := hT2
          have z0 : ((k : Int) == 0) = false := by simp; omega
          have z1 : ((k : Int) - 1).toNat = k - 1 := by omega
          have w2' : IntKind.i64.wrap ((k : Int) - 1) = (k : Int) - 1 := IntWalk.i64_in _ (by omega)
          have w3' : (1 : Int) ≤ (k : Int) := by omega
          have w4' : (k : Int) - 1 < (x.tones.length : Int) := by omega
          by_cases g2 : x.tones[k].start = x.tones[k - 1].start
          · have G := Lib.hid (runAt_old h0 hlt g2)
            have q2 : (x.tones[k].start == x.tones[k - 1].start) = true := by simpa using g2
            have q3 : (x.tones[k].start != x.tones[k - 1].start) = false := by simpa using g2
            clear g2
            go_wp2_with fail
            refine wp_region_ord [(0, true), (1, true), (2, true), (3, true), (4, true), (5, true), (6, true), (7, true), (8, true), (9, true), (10, true), (11, true), (12, true), (13, true), (14, true), (15, true), (16, true), (17, true)] (none) (by kernel_rfl) (by kernel_rfl) ?_
            (repeat (with_reducible refine wpOrd_soft (fun K hK => ?_); simp only [List.getElem?_toArray, List.getElem?_cons_zero, List.getElem?_cons_succ]; first | (go_simp; refine hK _ ?_) | (simp only [undef]; go_simp; refine hK _ ?_); clear hK K))
            (with_reducible refine wpOrd_nil ?_); refine NoPanic.normal ?_
            clear w2'
            go_wp2_with fail
            refine (l00Max_any _ _ _).mono ?_
            rintro e w2 ⟨rfl, rfl⟩
            clear w1'
            go_wp2
            go_roundw
            case rel => exact ⟨k + 1, by omega, by go_num, by rw [mostAt_step, G.out], by rw [G.out], hq.drewN _⟩
            case measure => simp [intOf]; omega
          · have G := Lib.hid (runAt_new h0 hlt g2)
            have q2 : (x.tones[k].start == x.tones[k - 1].start) = false := by simpa using g2
            have q3 : (x.tones[k].start != x.tones[k - 1].start) = true := by simpa using g2
            clear g2
            go_wp2_with fail
            refine wp_region_ord [(0, true), (1, true), (2, true), (3, true), (4, true), (5, true), (6, true), (7, true), (8, true), (9, true), (10, true), (11, true), (12, true), (13, true), (14, true), (15, true), (16, true), (17, true)] (none) (by kernel_rfl) (by kernel_rfl) ?_
            (repeat (with_reducible refine wpOrd_soft (fun K hK => ?_); simp only [List.getElem?_toArray, List.getElem?_cons_zero, List.getElem?_cons_succ]; first | (go_simp; refine hK _ ?_) | (simp only [undef]; go_simp; refine hK _ ?_); clear hK K))
            (with_reducible refine wpOrd_nil ?_); refine NoPanic.normal ?_
            clear w2'
            go_wp2_with fail
            refine (l00Max_any _ _ _).mono ?_
            rintro e w2 ⟨rfl, rfl⟩
            go_wp2
            go_roundw
            case rel => exact ⟨k + 1, by omega, by go_num, by rw [mostAt_step, G.out], by rw [G.out], hq.drewN _⟩
            case measure => simp [intOf]; omega
        · obtain rfl : k = 0 := by omega
          have G := Lib.hid (show runAt x.tones (0 + 1) = 1 by simp [runAt])
          have z0 : (((0 : Nat) : Int) == 0) = true := rfl
          go_wp2_with fail
          refine wp_region_ord [(0, true), (1, true), (2, true), (3, true), (4, true), (5, true), (6, true), (7, true), (8, true), (9, true), (10, true), (11, true), (12, true), (13, true), (14, true), (15, true), (16, true), (17, true)] (none) (by kernel_rfl) (by kernel_rfl) ?_
          (repeat (with_reducible refine wpOrd_soft (fun K hK => ?_); simp only [List.getElem?_toArray, List.getElem?_cons_zero, List.getElem?_cons_succ]; first | (go_simp; refine hK _ ?_) | (simp only [undef]; go_simp; refine hK _ ?_); clear hK K))
          (with_reducible refine wpOrd_nil ?_); refine NoPanic.normal ?_
          go_wp2_with fail
          refine (l00Max_any _ _ _).mono ?_
          rintro e w2 ⟨rfl, rfl⟩
          clear w1'
          go_wp2
          go_roundw
          case rel => exact ⟨0 + 1, by omega, by go_num, by rw [mostAt_step, G.out], by rw [G.out], hq.drewN _⟩
          case measure => simp [intOf]; omega
      · obtain rfl : k = x.tones.length := by omega
        go_wp2
        go_ret2
        exact ⟨rfl, hbw.trans (hq.below _)⟩
  · have g' : validTunB x = false := by rw [← Bool.not_eq_true, validTunB_iff]; exact g
    rw [g']
    clear g
    go_enter Try.func24, Try.ntmps24
    go_wp2_with fail
    refine (l25Ok_any _ _ x _ ⟨by simp [go_sem], by simp [go_sem], hlv.mono (by (repeat (first | with_reducible exact Below.refl _ _ | with_reducible exact hbw | (with_reducible refine Below.setCell ?_ ?_ _; rotate_left; · first | exact Nat.le_refl _ | omega | (simp; done) | (simp; omega)) | (with_reducible refine Below.alloc ?_ ?_ _; rotate_left; · first | exact Nat.le_refl _ | omega | (simp; done) | (simp; omega)) | with_reducible refine below_drewN ?_ _ | with_reducible refine Below.drew ?_))), ok.1⟩).mono ?_
    rw [g']
    rintro e w1 ⟨rfl, hb⟩
    have hbw : Below w.heap.size w w1 := Below.trans (by (repeat (first | with_reducible exact Below.refl _ _ | with_reducible exact hbw | (with_reducible refine Below.setCell ?_ ?_ _; rotate_left; · first | exact Nat.le_refl _ | omega | (simp; done) | (simp; omega)) | (with_reducible refine Below.alloc ?_ ?_ _; rotate_left; · first | exact Nat.le_refl _ | omega | (simp; done) | (simp; omega)) | with_reducible refine below_drewN ?_ _ | with_reducible refine Below.drew ?_))) (hb.mono (by simp <;> omega))
    go_wp2
    go_ret2
    exact ⟨rfl, hbw⟩


set_option maxHeartbeats 2000000 in
theorem implMostAtOnce_any (v : Value) (x : TunD) (w : World) (h : RdTun w v x) (ok : x.ok) (_ : x.tones.length ≤ 1048576) :
    Calls Try.prog 25 #[v] w fun e w' => e = .returned (.tuple #[.int .i64 (mostV x), .int .i64 (tuneEndC x)]) ∧ Below w.heap.size w w' := by
  obtain ⟨lv, rfl, hlv⟩ := h
  obtain ⟨a, ca, rfl, hca, hcm, _⟩ := id hlv
  have hm : x.tones.length ≤ maxLen := by omega
  clear hca hcm
  unfold maxLen at hm
  unfold mostV tuneEndC
  by_cases g : TunOk x
  · have g' := validTunB_iff.2 g
    clear g
    rw [g']
    go_enter Try.func25, Try.ntmps25
    go_wp2_with fail
    refine (implValidTun_any _ _ x _ ⟨rfl, hlv.mono (by (repeat (first | with_reducible exact Below.refl _ _ | with_reducible exact hbw | (with_reducible refine Below.setCell ?_ ?_ _; rotate_left; · first | exact Nat.le_refl _ | omega | (simp; done) | (simp; omega)) | (with_reducible refine Below.alloc ?_ ?_ _; rotate_left; · first | exact Nat.le_refl _ | omega | (simp; done) | (simp; omega)) | with_reducible refine below_drewN ?_ _ | with_reducible refine Below.drew ?_)))⟩ ok.1).mono ?_
    rw [g']
    rintro e w1 ⟨rfl, hb⟩
    have hbw : Below w.heap.size w w1 := Below.trans (by (repeat (first | with_reducible exact Below.refl _ _ | with_reducible exact hbw | (with_reducible refine Below.setCell ?_ ?_ _; rotate_left; · first | exact Nat.le_refl _ | omega | (simp; done) | (simp; omega)) | (with_reducible refine Below.alloc ?_ ?_ _; rotate_left; · first | exact Nat.le_refl _ | omega | (simp; done) | (simp; omega)) | with_reducible refine below_drewN ?_ _ | with_reducible refine Below.drew ?_))) (hb.mono (by simp <;> omega))
    have y0 : w1.cell? ⟨w.heap.size, 0, none⟩ = some (.string x.name) := cellB hb (by simp [go_sem])
    have y1 : w1.cell? ⟨w.heap.size, 1, none⟩ = some (.slice a x.tones.length ca) := cellB hb (by simp [go_sem])
    have hlv := hlv.mono hbw
    clear hb
    go_wp2_with fail
    go_loopw [4, 5, 14, 6, 7] (fun m r i _ _ wr => ∃ k : Nat, k ≤ x.tones.length ∧ i = .int .i64 k ∧ m = .int .i64 (mostAt x.tones k) ∧ r = .int .i64 (runAt x.tones k) ∧ Below w1.heap.size w1 wr) (fun _ _ i _ _ _ => x.tones.length - (intOf i).toNat)
    case atStart => exact ⟨0, Nat.zero_le _, rfl, rfl, rfl, by (repeat (first | with_reducible exact Below.refl _ _ | with_reducible exact hbw | (with_reducible refine Below.setCell ?_ ?_ _; rotate_left; · first | exact Nat.le_refl _ | omega | (simp; done) | (simp; omega)) | (with_reducible refine Below.alloc ?_ ?_ _; rotate_left; · first | exact Nat.le_refl _ | omega | (simp; done) | (simp; omega)) | with_reducible refine below_drewN ?_ _ | with_reducible refine Below.drew ?_))⟩
    case round =>
      obtain ⟨k, hk, rfl, rfl, rfl, hq⟩ := hrel
      have u0 := cellB hq y0
      have u1 := cellB hq y1
      have hs := World.block_lt_of_cell? _ _ u0
      simp only at hs
      by_cases hlt : k < x.tones.length
      · obtain ⟨b1, o1, rfl, hT⟩ := TonIn.of (hlv.mono hq) hlt
        obtain ⟨lB, d0, d1, d2⟩ := hT
        have l1 : b1 < wr.heap.size + 1 := by omega
        have l2 : w.heap.size < wr.heap.size + 1 := by omega
        have w1' : IntKind.i64.wrap (runAt x.tones k + 1) = runAt x.tones k + 1 := IntWalk.i64_in _ (by have := runAt_in x.tones k; omega)
        by_cases h0 : 0 < k
        · have hk1 : k - 1 < x.tones.length := by omega
          obtain ⟨b2, o2, e2, hT2⟩ := TonIn.of (hlv.mono hq) hk1
          simp only [Option.some.injEq, Addr.mk.injEq, and_true] at e2
          obtain ⟨rfl, rfl⟩ := e2
          obtain ⟨lB2, f0, f1, f2⟩ := hT2
          have z0 : decide (0 < (k : Int)) = true := by simpa using h0
          have z1 : ((k : Int) - 1).toNat = k - 1 := by omega
          have w2' : IntKind.i64.wrap ((k : Int) - 1) = (k : Int) - 1 := IntWalk.i64_in _ (by omega)
          have w3' : (1 : Int) ≤ (k : Int) := by omega
          have w4' : (k : Int) - 1 < (x.tones.length : Int) := by omega
          by_cases g2 : x.tones[k].start = x.tones[k - 1].start
          · have G := Lib.hid (runAt_old h0 hlt g2)
            have q2 : (x.tones[k].start == x.tones[k - 1].start) = true := by simpa using g2
            have q3 : (x.tones[k].start != x.tones[k - 1].start) = false := by simpa using g2
            clear g2
            go_wp2_with fail
            refine wp_region_ord [(0, true), (1, true), (2, true), (3, true), (4, true), (5, true), (6, true), (7, true), (8, true), (9, true), (10, true), (11, true), (12, true), (13, true)] (none) (by kernel_rfl) (by kernel_rfl) ?_
            (repeat (with_reducible refine wpOrd_soft (fun K hK => ?_); simp only [List.getElem?_toArray, List.getElem?_cons_zero, List.getElem?_cons_succ]; first | (go_simp; refine hK _ ?_) | (simp only [undef]; go_simp; refine hK _ ?_); clear hK K))
            (with_reducible refine wpOrd_nil ?_); refine NoPanic.normal ?_
            clear w2'
            go_wp2_with fail
            clear w1'
            go_wp2
            go_roundw
            case rel => exact ⟨k + 1, by omega, by go_num, by rw [mostAt_step, G.out]; congr 1; split <;> omega, by rw [G.out], hq.trans (Below.mono (B := wr.heap.size) (by (repeat (first | with_reducible exact Below.refl _ _ | with_reducible exact hbw | (with_reducible refine Below.setCell ?_ ?_ _; rotate_left; · first | exact Nat.le_refl _ | omega | (simp; done) | (simp; omega)) | (with_reducible refine Below.alloc ?_ ?_ _; rotate_left; · first | exact Nat.le_refl _ | omega | (simp; done) | (simp; omega)) | with_reducible refine below_drewN ?_ _ | with_reducible refine Below.drew ?_))) hq.size)⟩
            case measure => simp [intOf]; omega
          · have G := Lib.hid (runAt_new h0 hlt g2)
            have q2 : (x.tones[k].start == x.tones[k - 1].start) = false := by simpa using g2
            have q3 : (x.tones[k].start != x.tones[k - 1].start) = true := by simpa using g2
            clear g2
            go_wp2_with fail
            refine wp_region_ord [(0, true), (1, true), (2, true), (3, true), (4, true), (5, true), (6, true), (7, true), (8, true), (9, true), (10, true), (11, true), (12, true), (13, true)] (none) (by kernel_rfl) (by kernel_rfl) ?_
            (repeat (with_reducible refine wpOrd_soft (fun K hK => ?_); simp only [List.getElem?_toArray, List.getElem?_cons_zero, List.getElem?_cons_succ]; first | (go_simp; refine hK _ ?_) | (simp only [undef]; go_simp; refine hK _ ?_); clear hK K))
            (with_reducible refine wpOrd_nil ?_); refine NoPanic.normal ?_
            clear w2'
            go_wp2_with fail
            go_wp2
            go_roundw
            case rel => exact ⟨k + 1, by omega, by go_num, by rw [mostAt_step, G.out]; congr 1; split <;> omega, by rw [G.out], hq.trans (Below.mono (B := wr.heap.size) (by (repeat (first | with_reducible exact Below.refl _ _ | with_reducible exact hbw | (with_reducible refine Below.setCell ?_ ?_ _; rotate_left; · first | exact Nat.le_refl _ | omega | (simp; done) | (simp; omega)) | (with_reducible refine Below.alloc ?_ ?_ _; rotate_left; · first | exact Nat.le_refl _ | omega | (simp; done) | (simp; omega)) | with_reducible refine below_drewN ?_ _ | with_reducible refine Below.drew ?_))) hq.size)⟩
            case measure => simp [intOf]; omega
        · have G := Lib.hid (show runAt x.tones (k + 1) = runAt x.tones k + 1 by simp [runAt, h0])
          have z0 : decide (0 < (k : Int)) = false := by simpa using h0
          go_wp2_with fail
          refine wp_region_ord [(0, true), (1, true), (2, true), (3, true), (4, true), (5, true), (6, true), (7, true), (8, true), (9, true), (10, true), (11, true), (12, true), (13, true)] (none) (by kernel_rfl) (by kernel_rfl) ?_
          (repeat (with_reducible refine wpOrd_soft (fun K hK => ?_); simp only [List.getElem?_toArray, List.getElem?_cons_zero, List.getElem?_cons_succ]; first | (go_simp; refine hK _ ?_) | (simp only [undef]; go_simp; refine hK _ ?_); clear hK K))
          (with_reducible refine wpOrd_nil ?_); refine NoPanic.normal ?_
          go_wp2_with fail
          clear w1'
          go_wp2
          go_roundw
          case rel => exact ⟨k + 1, by omega, by go_num, by rw [mostAt_step, G.out]; congr 1; split <;> omega, by rw [G.out], hq.trans (Below.mono (B := wr.heap.size) (by (repeat (first | with_reducible exact Below.refl _ _ | with_reducible exact hbw | (with_reducible refine Below.setCell ?_ ?_ _; rotate_left; · first | exact Nat.le_refl _ | omega | (simp; done) | (simp; omega)) | (with_reducible refine Below.alloc ?_ ?_ _; rotate_left; · first | exact Nat.le_refl _ | omega | (simp; done) | (simp; omega)) | with_reducible refine below_drewN ?_ _ | with_reducible refine Below.drew ?_))) hq.size)⟩
          case measure => simp [intOf]; omega
      · obtain rfl : k = x.tones.length := by omega
        go_wp2
        go_ret2
        exact ⟨rfl, hbw.trans (hq.mono hbw.size)⟩
  · have g' : validTunB x = false := by rw [← Bool.not_eq_true, validTunB_iff]; exact g
    rw [g']
    clear g
    go_enter Try.func25, Try.ntmps25
    go_wp2_with fail
    refine (implValidTun_any _ _ x _ ⟨rfl, hlv.mono (by (repeat (first | with_reducible exact Below.refl _ _ | with_reducible exact hbw | (with_reducible refine Below.setCell ?_ ?_ _; rotate_left; · first | exact Nat.le_refl _ | omega | (simp; done) | (simp; omega)) | (with_reducible refine Below.alloc ?_ ?_ _; rotate_left; · first | exact Nat.le_refl _ | omega | (simp; done) | (simp; omega)) | with_reducible refine below_drewN ?_ _ | with_reducible refine Below.drew ?_)))⟩ ok.1).mono ?_
    rw [g']
    rintro e w1 ⟨rfl, hb⟩
    have hbw : Below w.heap.size w w1 := Below.trans (by (repeat (first | with_reducible exact Below.refl _ _ | with_reducible exact hbw | (with_reducible refine Below.setCell ?_ ?_ _; rotate_left; · first | exact Nat.le_refl _ | omega | (simp; done) | (simp; omega)) | (with_reducible refine Below.alloc ?_ ?_ _; rotate_left; · first | exact Nat.le_refl _ | omega | (simp; done) | (simp; omega)) | with_reducible refine below_drewN ?_ _ | with_reducible refine Below.drew ?_))) (hb.mono (by simp <;> omega))
    go_wp2
    go_ret2
    exact ⟨rfl, hbw⟩

end Go.Proofs.Ytfnbjegbaobpnaa
