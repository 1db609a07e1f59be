/- The contract of the program's ValidTune. -/
import Derived.Test.YtgdfecnpkjnhnaaDoorValidTun
set_option linter.unusedSimpArgs false
set_option linter.unnecessarySimpa false
set_option linter.unusedVariables false
namespace Go.Proofs.YtgdfecnpkjnhnaaDoor
open Go.RowKit

set_option maxHeartbeats 4000000 in
theorem implValidTun_any (v lv : Value) (x : TunD) (w : World) (h : Tun w v lv x) (hn : x.name.size ≤ maxLen) :
    Calls Tryd.prog 37 #[v] w fun e w' => e = .returned (.bool (validTunB x)) ∧ Below w.heap.size w w' := by
  obtain ⟨rfl, hlv⟩ := h
  obtain ⟨a, ca, rfl, hca, hcm, _⟩ := id hlv
  have hm : x.tones.length ≤ maxLen := by omega
  clear hca hcm
  unfold maxLen at hm
  go_enter Tryd.func37, Tryd.ntmps37
  go_wp2_with fail
  go_loopw [8, 3, 4] (fun i _ _ wr => ∃ k : Nat, k ≤ x.tones.length ∧ i = .int .i64 k ∧ (∀ i, i < k → TonAt x.tones i) ∧ wr.cell? ⟨w.heap.size, 0, none⟩ = some (.string x.name) ∧ wr.cell? ⟨w.heap.size, 1, none⟩ = some (.slice a x.tones.length ca) ∧ Below w.heap.size w wr) (fun i _ _ _ => x.tones.length - (intOf i).toNat)
  case atStart => exact ⟨0, Nat.zero_le _, rfl, by intro i h; omega, by simp [go_sem], by simp [go_sem], by (repeat (first | with_reducible exact Below.refl _ _ | with_reducible exact hbw | (with_reducible refine Below.setCell ?_ ?_ _; rotate_left; · first | exact Nat.le_refl _ | omega | (simp; done) | (simp; omega)) | (with_reducible refine Below.alloc ?_ ?_ _; rotate_left; · first | exact Nat.le_refl _ | omega | (simp; done) | (simp; omega)) | with_reducible refine below_drewN ?_ _ | with_reducible refine Below.drew ?_))⟩
  case round =>
    obtain ⟨k, hk, rfl, ht', u0, u1, hb⟩ := hrel
    have ht := Lib.hid ht'; clear ht'
    have hs := World.block_lt_of_cell? _ _ u0
    simp only at hs
    by_cases hlt : k < x.tones.length
    · obtain ⟨b1, o1, rfl, hB1, c0, c1, c2⟩ := (hlv.mono hb).at hlt
      by_cases g : TonOk x.tones[k]
      · by_cases h0 : 0 < k
        · have hk1 : k - 1 < x.tones.length := by omega
          obtain ⟨b2, o2, e2, hB2, e0, e1, e2'⟩ := (hlv.mono hb).at hk1
          simp only [Option.some.injEq, Addr.mk.injEq, and_true] at e2
          obtain ⟨rfl, rfl⟩ := e2
          have z1 : ((k : Int) - 1).toNat = k - 1 := by omega
          have d0 : decide (0 < (k : Int)) = true := by simpa using h0
          have w1' : IntKind.i64.wrap ((k : Int) - 1) = (k : Int) - 1 := IntWalk.i64_in _ (by omega)
          have w2' : (1 : Int) ≤ (k : Int) := by omega
          have w3' : (k : Int) - 1 < (x.tones.length : Int) := by omega
          have l1 : b1 < wr.heap.size + 1 := by omega
          have l2 : w.heap.size < wr.heap.size + 1 := by omega
          by_cases g2 : before x.tones[k - 1] x.tones[k]
          · have dc : decide (0 ≤ cmpT x.tones[k - 1] x.tones[k]) = false := by have := (cmpT_neg _ _).2 g2; simp; omega
            have G := Lib.hid g; have G2 := Lib.hid g2; clear g g2
            go_wp2_with fail
            refine wp_region_ord [(0, true), (1, false), (2, true), (3, true), (4, true), (5, true), (6, true), (7, true), (8, true), (9, true), (10, true), (11, true), (12, true), (13, true), (14, false), (15, true), (16, true), (17, true)] (none) (by kernel_rfl) (by kernel_rfl) ?_
            (repeat (with_reducible refine wpOrd_soft (fun K hK => ?_); simp only [List.getElem?_toArray, List.getElem?_cons_zero, List.getElem?_cons_succ]; first | (go_simp; refine hK _ ?_) | (simp only [undef]; go_simp; refine hK _ ?_); clear hK K))
            (with_reducible refine wpOrd_hard ?_; simp only [List.getElem?_toArray, List.getElem?_cons_zero, List.getElem?_cons_succ])
            go_wp2_with fail
            refine (validTone_any true x.tones[k] _ (yesB G.out)).mono ?_
            rintro e w1 ⟨rfl, hb1⟩
            have hb1 : Below (wr.heap.size + 1) (wr.alloc (Obj.cells #[.int .i64 x.tones[k].note, .int .i64 x.tones[k].start, .int .i64 x.tones[k].len] 59)) w1 := by simpa using undrew hb1
            have hbr : Below wr.heap.size wr w1 := Below.trans (by (repeat (first | with_reducible exact Below.refl _ _ | with_reducible exact hbw | (with_reducible refine Below.setCell ?_ ?_ _; rotate_left; · first | exact Nat.le_refl _ | omega | (simp; done) | (simp; omega)) | (with_reducible refine Below.alloc ?_ ?_ _; rotate_left; · first | exact Nat.le_refl _ | omega | (simp; done) | (simp; omega)) | with_reducible refine below_drewN ?_ _ | with_reducible refine Below.drew ?_))) (hb1.mono (by omega))
            go_wp2_with fail
            refine And.intro (grown_of_below (by simpa using hb1)) ?_
            (repeat (with_reducible refine wpOrd_soft (fun K hK => ?_); simp only [List.getElem?_toArray, List.getElem?_cons_zero, List.getElem?_cons_succ]; first | (go_simp; refine hK _ ?_) | (simp only [undef]; go_simp; refine hK _ ?_); clear hK K))
            (with_reducible refine wpOrd_hard ?_; simp only [List.getElem?_toArray, List.getElem?_cons_zero, List.getElem?_cons_succ])
            go_wp2_with fail
            refine (compareTones_any x.tones[k - 1] x.tones[k] _).mono ?_
            rintro e w2 ⟨rfl, hb2⟩
            have hb2' := hb1.trans (hb2.mono (by simpa using hb1.size))
            have hbr := hbr.trans (hb2.mono hbr.size)
            go_wp2_with fail
            refine And.intro (grown_of_below (by simpa using hb2')) ?_
            (repeat (with_reducible refine wpOrd_soft (fun K hK => ?_); simp only [List.getElem?_toArray, List.getElem?_cons_zero, List.getElem?_cons_succ]; first | (go_simp; refine hK _ ?_) | (simp only [undef]; go_simp; refine hK _ ?_); clear hK K))
            (with_reducible refine wpOrd_nil ?_); refine NoPanic.normal ?_
            clear w1'
            have y0 := cellB hbr u0
            have y1 := cellB hbr u1
            have hb := hb.trans (hbr.mono hb.size)
            clear hb1 hb2 hb2' hbr
            go_wp2
            go_roundw
            case rel => exact ⟨k + 1, by omega, by go_num, lt_step ht.out (fun _ => ⟨G.out, fun _ => G2.out⟩), y0, y1, hb⟩
            case measure => simp [intOf]; omega
          · have H := Lib.hid (show ¬ TunOk x from fun h => g2 ((h.tones k hlt hlt).2 h0))
            have dc : decide (0 ≤ cmpT x.tones[k - 1] x.tones[k]) = true := by have : ¬ cmpT x.tones[k - 1] x.tones[k] < 0 := fun h => g2 ((cmpT_neg _ _).1 h); simp; omega
            have G := Lib.hid g; clear g g2
            go_wp2_with fail
            refine wp_region_ord [(0, true), (1, false), (2, true), (3, true), (4, true), (5, true), (6, true), (7, true), (8, true), (9, true), (10, true), (11, true), (12, true), (13, true), (14, false), (15, true), (16, true), (17, true)] (none) (by kernel_rfl) (by kernel_rfl) ?_
            (repeat (with_reducible refine wpOrd_soft (fun K hK => ?_); simp only [List.getElem?_toArray, List.getElem?_cons_zero, List.getElem?_cons_succ]; first | (go_simp; refine hK _ ?_) | (simp only [undef]; go_simp; refine hK _ ?_); clear hK K))
            (with_reducible refine wpOrd_hard ?_; simp only [List.getElem?_toArray, List.getElem?_cons_zero, List.getElem?_cons_succ])
            go_wp2_with fail
            refine (validTone_any true x.tones[k] _ (yesB G.out)).mono ?_
            rintro e w1 ⟨rfl, hb1⟩
            have hb1 : Below (wr.heap.size + 1) (wr.alloc (Obj.cells #[.int .i64 x.tones[k].note, .int .i64 x.tones[k].start, .int .i64 x.tones[k].len] 59)) w1 := by simpa using undrew hb1
            have hbr : Below wr.heap.size wr w1 := Below.trans (by (repeat (first | with_reducible exact Below.refl _ _ | with_reducible exact hbw | (with_reducible refine Below.setCell ?_ ?_ _; rotate_left; · first | exact Nat.le_refl _ | omega | (simp; done) | (simp; omega)) | (with_reducible refine Below.alloc ?_ ?_ _; rotate_left; · first | exact Nat.le_refl _ | omega | (simp; done) | (simp; omega)) | with_reducible refine below_drewN ?_ _ | with_reducible refine Below.drew ?_))) (hb1.mono (by omega))
            go_wp2_with fail
            refine And.intro (grown_of_below (by simpa using hb1)) ?_
            (repeat (with_reducible refine wpOrd_soft (fun K hK => ?_); simp only [List.getElem?_toArray, List.getElem?_cons_zero, List.getElem?_cons_succ]; first | (go_simp; refine hK _ ?_) | (simp only [undef]; go_simp; refine hK _ ?_); clear hK K))
            (with_reducible refine wpOrd_hard ?_; simp only [List.getElem?_toArray, List.getElem?_cons_zero, List.getElem?_cons_succ])
            go_wp2_with fail
            refine (compareTones_any x.tones[k - 1] x.tones[k] _).mono ?_
            rintro e w2 ⟨rfl, hb2⟩
            have hb2' := hb1.trans (hb2.mono (by simpa using hb1.size))
            have hbr := hbr.trans (hb2.mono hbr.size)
            go_wp2_with fail
            refine And.intro (grown_of_below (by simpa using hb2')) ?_
            (repeat (with_reducible refine wpOrd_soft (fun K hK => ?_); simp only [List.getElem?_toArray, List.getElem?_cons_zero, List.getElem?_cons_succ]; first | (go_simp; refine hK _ ?_) | (simp only [undef]; go_simp; refine hK _ ?_); clear hK K))
            (with_reducible refine wpOrd_nil ?_); refine NoPanic.normal ?_
            clear w1'
            have hb := hb.trans (hbr.mono hb.size)
            clear hb1 hb2 hb2' hbr
            go_wp2
            go_ret
            exact ⟨ret_bool (finTun (by simpa using H.out)), hb⟩
        · have d0 : decide (0 < (k : Int)) = false := by simpa using h0
          have l1 : b1 < wr.heap.size + 1 := by omega
          have l2 : w.heap.size < wr.heap.size + 1 := by omega
          have G := Lib.hid g; clear g
          go_wp2_with fail
          refine wp_region_ord [(0, true), (1, false), (2, true), (3, true), (4, true), (5, true), (6, true), (7, true), (8, true), (9, true), (10, true), (11, true), (12, true), (13, true), (14, false), (15, true), (16, true), (17, true)] (none) (by kernel_rfl) (by kernel_rfl) ?_
          (repeat (with_reducible refine wpOrd_soft (fun K hK => ?_); simp only [List.getElem?_toArray, List.getElem?_cons_zero, List.getElem?_cons_succ]; first | (go_simp; refine hK _ ?_) | (simp only [undef]; go_simp; refine hK _ ?_); clear hK K))
          (with_reducible refine wpOrd_hard ?_; simp only [List.getElem?_toArray, List.getElem?_cons_zero, List.getElem?_cons_succ])
          go_wp2_with fail
          refine (validTone_any true x.tones[k] _ (yesB G.out)).mono ?_
          rintro e w1 ⟨rfl, hb1⟩
          have hb1 : Below (wr.heap.size + 1) (wr.alloc (Obj.cells #[.int .i64 x.tones[k].note, .int .i64 x.tones[k].start, .int .i64 x.tones[k].len] 59)) w1 := by simpa using undrew hb1
          have hbr : Below wr.heap.size wr w1 := Below.trans (by (repeat (first | with_reducible exact Below.refl _ _ | with_reducible exact hbw | (with_reducible refine Below.setCell ?_ ?_ _; rotate_left; · first | exact Nat.le_refl _ | omega | (simp; done) | (simp; omega)) | (with_reducible refine Below.alloc ?_ ?_ _; rotate_left; · first | exact Nat.le_refl _ | omega | (simp; done) | (simp; omega)) | with_reducible refine below_drewN ?_ _ | with_reducible refine Below.drew ?_))) (hb1.mono (by omega))
          go_wp2_with fail
          refine And.intro (grown_of_below (by simpa using hb1)) ?_
          (repeat (with_reducible refine wpOrd_soft (fun K hK => ?_); simp only [List.getElem?_toArray, List.getElem?_cons_zero, List.getElem?_cons_succ]; first | (go_simp; refine hK _ ?_) | (simp only [undef]; go_simp; refine hK _ ?_); clear hK K))
          (with_reducible refine wpOrd_skip ?_ (fun K hK => ?_); exact grown_of_below (by simpa using hb1); simp only [List.getElem?_toArray, List.getElem?_cons_zero, List.getElem?_cons_succ]; first | (go_simp; refine hK _ ?_) | (simp only [undef]; go_simp; refine hK _ ?_); clear hK K)
          (repeat (with_reducible refine wpOrd_soft (fun K hK => ?_); simp only [List.getElem?_toArray, List.getElem?_cons_zero, List.getElem?_cons_succ]; first | (go_simp; refine hK _ ?_) | (simp only [undef]; go_simp; refine hK _ ?_); clear hK K))
          (with_reducible refine wpOrd_nil ?_); refine NoPanic.normal ?_
          have y0 := cellB hbr u0
          have y1 := cellB hbr u1
          have hb := hb.trans (hbr.mono hb.size)
          clear hb1 hbr
          go_wp2
          go_roundw
          case rel => exact ⟨k + 1, by omega, by go_num, lt_step ht.out (fun _ => ⟨G.out, fun h => absurd h h0⟩), y0, y1, hb⟩
          case measure => simp [intOf]; omega
      · have H := Lib.hid (show ¬ TunOk x from fun h => g (h.tones k hlt hlt).1)
        have l1 : b1 < wr.heap.size + 1 := by omega
        have l2 : w.heap.size < wr.heap.size + 1 := by omega
        have G := Lib.hid g; clear g
        go_wp2_with fail
        refine wp_region_ord [(0, true), (1, false), (2, true), (3, true), (4, true), (5, true), (6, true), (7, true), (8, true), (9, true), (10, true), (11, true), (12, true), (13, true), (14, false), (15, true), (16, true), (17, true)] (none) (by kernel_rfl) (by kernel_rfl) ?_
        (repeat (with_reducible refine wpOrd_soft (fun K hK => ?_); simp only [List.getElem?_toArray, List.getElem?_cons_zero, List.getElem?_cons_succ]; first | (go_simp; refine hK _ ?_) | (simp only [undef]; go_simp; refine hK _ ?_); clear hK K))
        (with_reducible refine wpOrd_hard ?_; simp only [List.getElem?_toArray, List.getElem?_cons_zero, List.getElem?_cons_succ])
        go_wp2_with fail
        refine (validTone_any false x.tones[k] _ (noB G.out)).mono ?_
        rintro e w1 ⟨rfl, hb1⟩
        have hb1 : Below (wr.heap.size + 1) (wr.alloc (Obj.cells #[.int .i64 x.tones[k].note, .int .i64 x.tones[k].start, .int .i64 x.tones[k].len] 59)) w1 := by simpa using undrew hb1
        have hbr : Below wr.heap.size wr w1 := Below.trans (by (repeat (first | with_reducible exact Below.refl _ _ | with_reducible exact hbw | (with_reducible refine Below.setCell ?_ ?_ _; rotate_left; · first | exact Nat.le_refl _ | omega | (simp; done) | (simp; omega)) | (with_reducible refine Below.alloc ?_ ?_ _; rotate_left; · first | exact Nat.le_refl _ | omega | (simp; done) | (simp; omega)) | with_reducible refine below_drewN ?_ _ | with_reducible refine Below.drew ?_))) (hb1.mono (by omega))
        go_wp2_with fail
        refine And.intro (grown_of_below (by simpa using hb1)) ?_
        (repeat (with_reducible refine wpOrd_soft (fun K hK => ?_); simp only [List.getElem?_toArray, List.getElem?_cons_zero, List.getElem?_cons_succ]; first | (go_simp; refine hK _ ?_) | (simp only [undef]; go_simp; refine hK _ ?_); clear hK K))
        (with_reducible refine wpOrd_skip ?_ (fun K hK => ?_); exact grown_of_below (by simpa using hb1); simp only [List.getElem?_toArray, List.getElem?_cons_zero, List.getElem?_cons_succ]; first | (go_simp; refine hK _ ?_) | (simp only [undef]; go_simp; refine hK _ ?_); clear hK K)
        (repeat (with_reducible refine wpOrd_soft (fun K hK => ?_); simp only [List.getElem?_toArray, List.getElem?_cons_zero, List.getElem?_cons_succ]; first | (go_simp; refine hK _ ?_) | (simp only [undef]; go_simp; refine hK _ ?_); clear hK K))
        (with_reducible refine wpOrd_nil ?_); refine NoPanic.normal ?_
        have hb := hb.trans (hbr.mono hb.size)
        clear hb1 hbr
        go_wp2
        go_ret
        exact ⟨ret_bool (finTun (by simpa using H.out)), hb⟩
    · have T := Lib.hid (show TonesOk x.tones from fun i hi => ht.out i (by omega))
      by_cases g : NameOk x.name
      · have G := Lib.hid (yesB g)
        have H := Lib.hid (show decide ((x.tones.length : Int) ≤ 128) = validTunB x from finTun ⟨fun h => by have := h.len; simp; omega, fun h => ⟨g, by have := of_decide_eq_true h; omega, T.out⟩⟩)
        clear g
        go_wp2_with fail
        refine (isName_any x.name _ hn).mono ?_
        rw [← G.out]
        rintro e w1 ⟨rfl, hb1⟩
        have y0 := cellB hb1 u0
        have y1 := cellB hb1 u1
        go_wp2
        go_ret
        exact ⟨ret_bool H.out, hb.trans (hb1.mono hb.size)⟩
      · have G := Lib.hid (noB g)
        have H := Lib.hid (show ¬ TunOk x from fun h => g h.name)
        clear g
        go_wp2_with fail
        refine (isName_any x.name _ hn).mono ?_
        rw [← G.out]
        rintro e w1 ⟨rfl, hb1⟩
        go_wp2
        go_ret
        exact ⟨ret_bool (finTun (by simpa using H.out)), hb.trans (hb1.mono hb.size)⟩

theorem implValidTune_any (v : Value) (x : TunD) (w : World) (h : RdTun w v x) (ok : x.ok) (_ : x.tones.length ≤ 1048576) :
    Calls Tryd.prog 37 #[v] w fun e w' => e = .returned (.bool (validTunB x)) ∧ Below w.heap.size w w' := by
  obtain ⟨lv, h⟩ := h
  exact implValidTun_any v lv x w h ok.1

/-- The size of a tune, as the laws count it. -/
def szTun (x : TunD) : Nat := x.name.size + x.tones.length
theorem szTunY (v : Value) (x : TunD) (left : Int) (w : World) (h : RdTun w v x) (ok : x.ok) (h0 : 0 ≤ left) (hl : left ≤ 1048576) (hs : szTun x ≤ left) :
    Calls Tryd.prog 12 #[v, .int .i64 left] w fun e w' => e = .returned (.int .i64 (left - szTun x)) ∧ Below w.heap.size w w' := by
  obtain ⟨lv, h⟩ := h
  refine (szTun_any v lv x left w h ok.1 h0 hl).mono fun e w' ⟨he, hb⟩ => ⟨by rw [he]; unfold leftTun szTun at *; rw [if_neg (by omega)]; congr 2; omega, hb⟩
theorem szTunN (v : Value) (x : TunD) (left : Int) (w : World) (h : RdTun w v x) (ok : x.ok) (h0 : 0 ≤ left) (hl : left ≤ 1048576) (hs : left < szTun x) :
    Calls Tryd.prog 12 #[v, .int .i64 left] w fun e w' => e = .returned (.int .i64 (-1)) ∧ Below w.heap.size w w' := by
  obtain ⟨lv, h⟩ := h
  refine (szTun_any v lv x left w h ok.1 h0 hl).mono fun e w' ⟨he, hb⟩ => ⟨by rw [he]; unfold leftTun szTun at *; rw [if_pos (by omega)], hb⟩

end Go.Proofs.YtgdfecnpkjnhnaaDoor
