/- Contracts of l24Ok, ValidClavier and KeyFor of both packages. -/
import Derived.Test.YtijhlllajddlpaaActsTo
set_option linter.unusedSimpArgs false
set_option linter.unnecessarySimpa false
set_option linter.unusedVariables false
set_option maxRecDepth 100000
namespace Go.Proofs.Ytijhlllajddlpaa
open Go.RowKit

/-- The action at k is right, and its note is above that of the one before. -/
def ClavAt (xs : List ActD) (k : Nat) : Prop := ∀ h : k < xs.length, ActOk xs[k] ∧ (0 < k → (xs[k - 1]'(by omega)).note < xs[k].note)
structure ClavOk (xs : List ActD) : Prop where
  all : ∀ k, k < xs.length → ClavAt xs k
  len : xs.length ≤ 48
noncomputable instance (xs : List ActD) : Decidable (ClavOk xs) := Classical.propDecidable _
noncomputable def clavB (xs : List ActD) : Bool := decide (ClavOk xs)
theorem clavB_iff {xs : List ActD} : clavB xs = true ↔ ClavOk xs := by simp [clavB]
theorem finClav {xs : List ActD} {b : Bool} (h : ClavOk xs ↔ b = true) : b = clavB xs := by cases b <;> simp [clavB] at h ⊢ <;> exact h
theorem ClavOk.ok {xs : List ActD} (h : ClavOk xs) {k : Nat} (hk : k < xs.length) : ActOk xs[k] := (h.all k hk hk).1

theorem l24One_b (r : Bool) (b off : Nat) (lv : Value) (x : ActD) (w : World) (h : ActIn w b off lv x) (hr : r = decide (ActOk x)) :
    Calls Try.prog 18 #[.pointer (some ⟨b, off, none⟩)] w fun e w' => e = .returned (.bool r) ∧ w' = w := by
  subst hr; exact l24One_any b off lv x w h
theorem implValidAct_b (r : Bool) (v lv : Value) (x : ActD) (w : World) (h : Acc w v lv x) (hr : r = decide (ActOk x)) :
    Calls Try.prog 21 #[v] w fun e w' => e = .returned (.bool r) ∧ Below w.heap.size w w' := by
  subst hr; exact implValidAct_any v lv x w h

set_option maxHeartbeats 2000000 in
theorem l24Ok_any (v : Value) (x : List ActD) (w : World) (h : RdActs w v x) :
    Calls Try.prog 32 #[v] w fun e w' => e = .returned (.bool (clavB x)) ∧ Q w w' := by
  obtain ⟨a, ca, rfl, hm⟩ := h.form'
  unfold maxLen at hm
  go_enter Try.func32, Try.ntmps32
  go_wp2_with fail
  go_loopw [3] (fun i wr => ∃ k : Nat, k ≤ x.length ∧ i = .int .i64 k ∧ (∀ i, i < k → ClavAt x i) ∧ Q w wr) (fun i _ => x.length - (intOf i).toNat)
  case atStart => exact ⟨0, Nat.zero_le _, rfl, by intro i h; omega, Q.refl _⟩
  case round =>
    obtain ⟨k, hk, rfl, ht', hq⟩ := hrel
    have ht := Lib.hid ht'; clear ht'
    by_cases hlt : k < x.length
    · obtain ⟨b1, o1, lv, c1, rfl, hB, hA⟩ := (h.mono (hq.below _)).at' hlt
      by_cases g : ActOk x[k]
      · by_cases h0 : 0 < k
        · have hk1 : k - 1 < x.length := by omega
          obtain ⟨b2, o2, lv2, c2, e2, hB2, hA2⟩ := (h.mono (hq.below _)).at' hk1
          simp only [Option.some.injEq, Addr.mk.injEq, and_true] at e2
          obtain ⟨rfl, rfl⟩ := e2
          have u0 := hA.c0
          have u1 := hA2.c0
          have z1 : ((k : Int) - 1).toNat = k - 1 := by omega
          have d0 : decide (0 < (k : Int)) = true := by simpa using h0
          have HA := Lib.hid hA; clear hA hA2
          by_cases g2 : x[k - 1].note < x[k].note
          · have d1 : decide (x[k].note ≤ x[k - 1].note) = false := by simpa using g2
            have G := Lib.hid g; have G2 := Lib.hid g2; clear g g2
            go_wp2_with fail
            go_quiet ((go_at_call 18; exact Calls.quiet_of_same (l24One_b true _ _ _ x[k] _ ⟨HA.out.c0, HA.out.c1, HA.out.c2, HA.out.c3, HA.out.levs⟩ (yesB G.out))))
            go_wp2
            go_roundw
            case rel => exact ⟨k + 1, by omega, by go_num, lt_step ht.out (fun _ => ⟨G.out, fun _ => G2.out⟩), hq.drewN _⟩
            case measure => simp [intOf]; omega
          · have H := Lib.hid (show ¬ ClavOk x from fun h => g2 ((h.all k hlt hlt).2 h0))
            have d1 : decide (x[k].note ≤ x[k - 1].note) = true := by simpa using g2
            have G := Lib.hid g; clear g g2
            go_wp2_with fail
            go_quiet ((go_at_call 18; exact Calls.quiet_of_same (l24One_b true _ _ _ x[k] _ ⟨HA.out.c0, HA.out.c1, HA.out.c2, HA.out.c3, HA.out.levs⟩ (yesB G.out))))
            go_wp2
            go_ret
            exact ⟨ret_bool (finClav (by simpa using H.out)), hq.drewN _⟩
        · have d0 : decide (0 < (k : Int)) = false := by simpa using h0
          have G := Lib.hid g; have HA := Lib.hid hA; clear g hA
          go_wp2_with fail
          go_quiet ((go_at_call 18; exact Calls.quiet_of_same (l24One_b true _ _ _ x[k] _ ⟨HA.out.c0, HA.out.c1, HA.out.c2, HA.out.c3, HA.out.levs⟩ (yesB G.out))))
          go_wp2
          go_roundw
          case rel => exact ⟨k + 1, by omega, by go_num, lt_step ht.out (fun _ => ⟨G.out, fun h => absurd h (by omega)⟩), hq.drewN _⟩
          case measure => simp [intOf]; omega
      · have H := Lib.hid (show ¬ ClavOk x from fun h => g (h.all k hlt hlt).1)
        have G := Lib.hid g; have HA := Lib.hid hA; clear g hA
        go_wp2_with fail
        go_quiet ((go_at_call 18; exact Calls.quiet_of_same (l24One_b false _ _ _ x[k] _ ⟨HA.out.c0, HA.out.c1, HA.out.c2, HA.out.c3, HA.out.levs⟩ (noB G.out))))
        go_wp2
        go_ret
        exact ⟨ret_bool (finClav (by simpa using H.out)), hq.drewN _⟩
    · have T := Lib.hid (show ∀ k, k < x.length → ClavAt x k from fun i hi => ht.out i (by omega))
      have H := Lib.hid (show decide ((x.length : Int) ≤ 48) = clavB x from finClav ⟨fun h => by have := h.len; simp; omega, fun h => ⟨T.out, by have := of_decide_eq_true h; omega⟩⟩)
      go_wp2
      go_ret
      exact ⟨ret_bool H.out, hq⟩

set_option maxHeartbeats 2000000 in
theorem implValidClav_any (v : Value) (x : List ActD) (w : World) (h : RdActs w v x) :
    Calls Try.prog 28 #[v] w fun e w' => e = .returned (.bool (clavB x)) ∧ Below w.heap.size w w' := by
  obtain ⟨a, ca, rfl, hm⟩ := h.form'
  unfold maxLen at hm
  go_enter Try.func28, Try.ntmps28
  go_wp2_with fail
  go_loopw [7, 3, 4] (fun i _ _ wr => ∃ k : Nat, k ≤ x.length ∧ i = .int .i64 k ∧ (∀ i, i < k → ClavAt x i) ∧ Below w.heap.size w wr) (fun i _ _ _ => x.length - (intOf i).toNat)
  case atStart => exact ⟨0, Nat.zero_le _, rfl, by intro i h; omega, Below.refl _ _⟩
  case round =>
    obtain ⟨k, hk, rfl, ht', hb⟩ := hrel
    have ht := Lib.hid ht'; clear ht'
    by_cases hlt : k < x.length
    · obtain ⟨b1, o1, lv, c1, rfl, hB, hA⟩ := (h.mono hb).at' hlt
      have l1 : b1 < wr.heap.size + 1 := by omega
      obtain ⟨u0, u1, u2, u3, u4⟩ := id hA
      have HA := Lib.hid hA; clear hA
      by_cases g : ActOk x[k]
      · by_cases h0 : 0 < k
        · have hk1 : k - 1 < x.length := by omega
          obtain ⟨b2, o2, lv2, c2, e2, hB2, hA2⟩ := (h.mono hb).at' hk1
          simp only [Option.some.injEq, Addr.mk.injEq, and_true] at e2
          obtain ⟨rfl, rfl⟩ := e2
          have p0 := hA2.c0
          have z0 : decide (0 < (k : Int)) = true := by simpa using h0
          have z1 : ((k : Int) - 1).toNat = k - 1 := by omega
          have w2' : IntKind.i64.wrap ((k : Int) - 1) = (k : Int) - 1 := IntWalk.i64_in _ (by omega)
          have w3' : (1 : Int) ≤ (k : Int) := by omega
          have w4' : (k : Int) - 1 < (x.length : Int) := by omega
          clear hA2
          by_cases g2 : x[k - 1].note < x[k].note
          · have d1 : decide (x[k].note ≤ x[k - 1].note) = false := by simpa using g2
            have G := Lib.hid g; have G2 := Lib.hid g2; clear g g2
            go_wp2_with fail
            refine wp_region_ord [(0, true), (1, false), (2, true), (3, true), (4, true), (5, true), (6, true), (7, true), (8, true), (9, true), (10, true), (11, true), (12, true), (13, true), (14, true), (15, true), (16, true), (17, true)] (none) (by kernel_rfl) (by kernel_rfl) ?_
            (repeat (with_reducible refine wpOrd_soft (fun K hK => ?_); simp only [List.getElem?_toArray, List.getElem?_cons_zero, List.getElem?_cons_succ]; first | (go_simp; refine hK _ ?_) | (simp only [undef]; go_simp; refine hK _ ?_); clear hK K))
            (with_reducible refine wpOrd_hard ?_; simp only [List.getElem?_toArray, List.getElem?_cons_zero, List.getElem?_cons_succ])
            go_wp2_with fail
            refine (implValidAct_b true _ _ x[k] _ ⟨rfl, u4.mono (by (repeat (first | with_reducible exact Below.refl _ _ | with_reducible exact hbw | (with_reducible refine Below.setCell ?_ ?_ _; rotate_left; · first | exact Nat.le_refl _ | omega | (simp; done) | (simp; omega)) | (with_reducible refine Below.alloc ?_ ?_ _; rotate_left; · first | exact Nat.le_refl _ | omega | (simp; done) | (simp; omega)) | with_reducible refine below_drewN ?_ _ | with_reducible refine Below.drew ?_)))⟩ (yesB G.out)).mono ?_
            rintro e w2 ⟨rfl, hb1⟩
            have hb1 := undrew hb1
            go_wp2_with fail
            refine ⟨grown_of_below hb1, ?_⟩
            (repeat (with_reducible refine wpOrd_soft (fun K hK => ?_); simp only [List.getElem?_toArray, List.getElem?_cons_zero, List.getElem?_cons_succ]; first | (go_simp; refine hK _ ?_) | (simp only [undef]; go_simp; refine hK _ ?_); clear hK K))
            (with_reducible refine wpOrd_nil ?_); refine NoPanic.normal ?_
            have hb2 : Below w.heap.size w w2 := hb.trans ((Below.trans (by (repeat (first | with_reducible exact Below.refl _ _ | with_reducible exact hbw | (with_reducible refine Below.setCell ?_ ?_ _; rotate_left; · first | exact Nat.le_refl _ | omega | (simp; done) | (simp; omega)) | (with_reducible refine Below.alloc ?_ ?_ _; rotate_left; · first | exact Nat.le_refl _ | omega | (simp; done) | (simp; omega)) | with_reducible refine below_drewN ?_ _ | with_reducible refine Below.drew ?_))) (hb1.mono (by simp))).mono hb.size)
            clear w2'
            go_wp2
            go_roundw
            case rel => exact ⟨k + 1, by omega, by go_num, lt_step ht.out (fun _ => ⟨G.out, fun _ => G2.out⟩), hb2⟩
            case measure => simp [intOf]; omega
          · have H := Lib.hid (show ¬ ClavOk x from fun h => g2 ((h.all k hlt hlt).2 h0))
            have d1 : decide (x[k].note ≤ x[k - 1].note) = true := by simpa using g2
            have G := Lib.hid g; clear g g2
            go_wp2_with fail
            refine wp_region_ord [(0, true), (1, false), (2, true), (3, true), (4, true), (5, true), (6, true), (7, true), (8, true), (9, true), (10, true), (11, true), (12, true), (13, true), (14, true), (15, true), (16, true), (17, true)] (none) (by kernel_rfl) (by kernel_rfl) ?_
            (repeat (with_reducible refine wpOrd_soft (fun K hK => ?_); simp only [List.getElem?_toArray, List.getElem?_cons_zero, List.getElem?_cons_succ]; first | (go_simp; refine hK _ ?_) | (simp only [undef]; go_simp; refine hK _ ?_); clear hK K))
            (with_reducible refine wpOrd_hard ?_; simp only [List.getElem?_toArray, List.getElem?_cons_zero, List.getElem?_cons_succ])
            go_wp2_with fail
            refine (implValidAct_b true _ _ x[k] _ ⟨rfl, u4.mono (by (repeat (first | with_reducible exact Below.refl _ _ | with_reducible exact hbw | (with_reducible refine Below.setCell ?_ ?_ _; rotate_left; · first | exact Nat.le_refl _ | omega | (simp; done) | (simp; omega)) | (with_reducible refine Below.alloc ?_ ?_ _; rotate_left; · first | exact Nat.le_refl _ | omega | (simp; done) | (simp; omega)) | with_reducible refine below_drewN ?_ _ | with_reducible refine Below.drew ?_)))⟩ (yesB G.out)).mono ?_
            rintro e w2 ⟨rfl, hb1⟩
            have hb1 := undrew hb1
            go_wp2_with fail
            refine ⟨grown_of_below hb1, ?_⟩
            (repeat (with_reducible refine wpOrd_soft (fun K hK => ?_); simp only [List.getElem?_toArray, List.getElem?_cons_zero, List.getElem?_cons_succ]; first | (go_simp; refine hK _ ?_) | (simp only [undef]; go_simp; refine hK _ ?_); clear hK K))
            (with_reducible refine wpOrd_nil ?_); refine NoPanic.normal ?_
            have hb2 : Below w.heap.size w w2 := hb.trans ((Below.trans (by (repeat (first | with_reducible exact Below.refl _ _ | with_reducible exact hbw | (with_reducible refine Below.setCell ?_ ?_ _; rotate_left; · first | exact Nat.le_refl _ | omega | (simp; done) | (simp; omega)) | (with_reducible refine Below.alloc ?_ ?_ _; rotate_left; · first | exact Nat.le_refl _ | omega | (simp; done) | (simp; omega)) | with_reducible refine below_drewN ?_ _ | with_reducible refine Below.drew ?_))) (hb1.mono (by simp))).mono hb.size)
            clear w2'
            go_wp2
            go_ret
            exact ⟨ret_bool (finClav (by simpa using H.out)), hb2⟩
        · have z0 : decide (0 < (k : Int)) = false := by simpa using h0
          have w2' : True := trivial
          have G := Lib.hid g; clear g
          go_wp2_with fail
          refine wp_region_ord [(0, true), (1, false), (2, true), (3, true), (4, true), (5, true), (6, true), (7, true), (8, true), (9, true), (10, true), (11, true), (12, true), (13, true), (14, true), (15, true), (16, true), (17, true)] (none) (by kernel_rfl) (by kernel_rfl) ?_
          (repeat (with_reducible refine wpOrd_soft (fun K hK => ?_); simp only [List.getElem?_toArray, List.getElem?_cons_zero, List.getElem?_cons_succ]; first | (go_simp; refine hK _ ?_) | (simp only [undef]; go_simp; refine hK _ ?_); clear hK K))
          (with_reducible refine wpOrd_hard ?_; simp only [List.getElem?_toArray, List.getElem?_cons_zero, List.getElem?_cons_succ])
          go_wp2_with fail
          refine (implValidAct_b true _ _ x[k] _ ⟨rfl, u4.mono (by (repeat (first | with_reducible exact Below.refl _ _ | with_reducible exact hbw | (with_reducible refine Below.setCell ?_ ?_ _; rotate_left; · first | exact Nat.le_refl _ | omega | (simp; done) | (simp; omega)) | (with_reducible refine Below.alloc ?_ ?_ _; rotate_left; · first | exact Nat.le_refl _ | omega | (simp; done) | (simp; omega)) | with_reducible refine below_drewN ?_ _ | with_reducible refine Below.drew ?_)))⟩ (yesB G.out)).mono ?_
          rintro e w2 ⟨rfl, hb1⟩
          have hb1 := undrew hb1
          go_wp2_with fail
          refine ⟨grown_of_below hb1, ?_⟩
          (repeat (with_reducible refine wpOrd_soft (fun K hK => ?_); simp only [List.getElem?_toArray, List.getElem?_cons_zero, List.getElem?_cons_succ]; first | (go_simp; refine hK _ ?_) | (simp only [undef]; go_simp; refine hK _ ?_); clear hK K))
          (with_reducible refine wpOrd_nil ?_); refine NoPanic.normal ?_
          have hb2 : Below w.heap.size w w2 := hb.trans ((Below.trans (by (repeat (first | with_reducible exact Below.refl _ _ | with_reducible exact hbw | (with_reducible refine Below.setCell ?_ ?_ _; rotate_left; · first | exact Nat.le_refl _ | omega | (simp; done) | (simp; omega)) | (with_reducible refine Below.alloc ?_ ?_ _; rotate_left; · first | exact Nat.le_refl _ | omega | (simp; done) | (simp; omega)) | with_reducible refine below_drewN ?_ _ | with_reducible refine Below.drew ?_))) (hb1.mono (by simp))).mono hb.size)
          clear w2'
          go_wp2
          go_roundw
          case rel => exact ⟨k + 1, by omega, by go_num, lt_step ht.out (fun _ => ⟨G.out, fun h => absurd h (by omega)⟩), hb2⟩
          case measure => simp [intOf]; omega
      · have H := Lib.hid (show ¬ ClavOk x from fun h => g (h.all k hlt hlt).1)
        have w2' : True := trivial
        have G := Lib.hid g; clear g
        go_wp2_with fail
        refine wp_region_ord [(0, true), (1, false), (2, true), (3, true), (4, true), (5, true), (6, true), (7, true), (8, true), (9, true), (10, true), (11, true), (12, true), (13, true), (14, true), (15, true), (16, true), (17, true)] (none) (by kernel_rfl) (by kernel_rfl) ?_
        (repeat (with_reducible refine wpOrd_soft (fun K hK => ?_); simp only [List.getElem?_toArray, List.getElem?_cons_zero, List.getElem?_cons_succ]; first | (go_simp; refine hK _ ?_) | (simp only [undef]; go_simp; refine hK _ ?_); clear hK K))
        (with_reducible refine wpOrd_hard ?_; simp only [List.getElem?_toArray, List.getElem?_cons_zero, List.getElem?_cons_succ])
        go_wp2_with fail
        refine (implValidAct_b false _ _ x[k] _ ⟨rfl, u4.mono (by (repeat (first | with_reducible exact Below.refl _ _ | with_reducible exact hbw | (with_reducible refine Below.setCell ?_ ?_ _; rotate_left; · first | exact Nat.le_refl _ | omega | (simp; done) | (simp; omega)) | (with_reducible refine Below.alloc ?_ ?_ _; rotate_left; · first | exact Nat.le_refl _ | omega | (simp; done) | (simp; omega)) | with_reducible refine below_drewN ?_ _ | with_reducible refine Below.drew ?_)))⟩ (noB G.out)).mono ?_
        rintro e w2 ⟨rfl, hb1⟩
        have hb1 := undrew hb1
        go_wp2_with fail
        refine ⟨grown_of_below hb1, ?_⟩
        (repeat (with_reducible refine wpOrd_soft (fun K hK => ?_); simp only [List.getElem?_toArray, List.getElem?_cons_zero, List.getElem?_cons_succ]; first | (go_simp; refine hK _ ?_) | (simp only [undef]; go_simp; refine hK _ ?_); clear hK K))
        (with_reducible refine wpOrd_nil ?_); refine NoPanic.normal ?_
        have hb2 : Below w.heap.size w w2 := hb.trans ((Below.trans (by (repeat (first | with_reducible exact Below.refl _ _ | with_reducible exact hbw | (with_reducible refine Below.setCell ?_ ?_ _; rotate_left; · first | exact Nat.le_refl _ | omega | (simp; done) | (simp; omega)) | (with_reducible refine Below.alloc ?_ ?_ _; rotate_left; · first | exact Nat.le_refl _ | omega | (simp; done) | (simp; omega)) | with_reducible refine below_drewN ?_ _ | with_reducible refine Below.drew ?_))) (hb1.mono (by simp))).mono hb.size)
        clear w2'
        go_wp2
        go_ret
        exact ⟨ret_bool (finClav (by simpa using H.out)), hb2⟩
    · have T := Lib.hid (show ∀ k, k < x.length → ClavAt x k from fun i hi => ht.out i (by omega))
      have H := Lib.hid (show decide ((x.length : Int) ≤ 48) = clavB x from finClav ⟨fun h => by have := h.len; simp; omega, fun h => ⟨T.out, by have := of_decide_eq_true h; omega⟩⟩)
      go_wp2
      go_ret
      exact ⟨ret_bool H.out, hb⟩

theorem specValidClavier_any (v : Value) (x : List ActD) (w : World) (h : RdActs w v x) (_ : okActs x) (_ : szActs x ≤ 1048576) :
    Calls Try.prog 13 #[v] w fun e w' => e = .returned (.bool (clavB x)) ∧ Below w.heap.size w w' := by
  go_enter Try.func13, Try.ntmps13
  go_wp2_with fail
  refine (l24Ok_any _ x _ h).mono ?_
  rintro e w1 ⟨rfl, nq, rfl⟩
  go_wp2
  go_ret
  refine ⟨rfl, ?_⟩
  (repeat (first | with_reducible exact Below.refl _ _ | with_reducible exact hbw | (with_reducible refine Below.setCell ?_ ?_ _; rotate_left; · first | exact Nat.le_refl _ | omega | (simp; done) | (simp; omega)) | (with_reducible refine Below.alloc ?_ ?_ _; rotate_left; · first | exact Nat.le_refl _ | omega | (simp; done) | (simp; omega)) | with_reducible refine below_drewN ?_ _ | with_reducible refine Below.drew ?_))
theorem implValidClavier_any (v : Value) (x : List ActD) (w : World) (h : RdActs w v x) (_ : okActs x) (_ : szActs x ≤ 1048576) :
    Calls Try.prog 28 #[v] w fun e w' => e = .returned (.bool (clavB x)) ∧ Below w.heap.size w w' := implValidClav_any v x w h

end Go.Proofs.Ytijhlllajddlpaa
