/- Validity of lists of bays and castings, both packages. -/
import Derived.Test.YteaijhmgfddjiaaBayV
set_option linter.unusedSimpArgs false
set_option linter.unnecessarySimpa false
set_option linter.unusedVariables false
set_option maxRecDepth 100000
namespace Go.Proofs.Yteaijhmgfddjiaa
open Go.RowKit

/-- The bay at k is right, and its name is above that of the one before. -/
def BayAt (xs : List BayD) (k : Nat) : Prop := ∀ h : k < xs.length, bayOk xs[k] ∧ (0 < k → Go.Op.bytesLess (xs[k - 1]'(by omega)).id.toList xs[k].id.toList = true)
structure BaysOk (xs : List BayD) : Prop where
  all : ∀ k, k < xs.length → BayAt xs k
  len : xs.length ≤ 8
noncomputable instance (xs : List BayD) : Decidable (BaysOk xs) := Classical.propDecidable _
noncomputable def baysB (xs : List BayD) : Bool := decide (BaysOk xs)
theorem baysB_iff {xs : List BayD} : baysB xs = true ↔ BaysOk xs := by simp [baysB]
theorem finbaysB {xs : List BayD} {b : Bool} (h : BaysOk xs ↔ b = true) : b = baysB xs := by cases b <;> simp [baysB] at h ⊢ <;> exact h
theorem BaysOk.ok {xs : List BayD} (h : BaysOk xs) {k : Nat} (hk : k < xs.length) : bayOk xs[k] := (h.all k hk hk).1

set_option maxHeartbeats 2000000 in
theorem l16Bays_any (v : Value) (x : List BayD) (w : World) (h : RdBayDs w v x) (ok : okBayDs x) :
    Calls Try.prog 64 #[v] w fun e w' => e = .returned (.bool (baysB x)) ∧ Q w w' := by
  obtain ⟨a, ca, rfl, hm⟩ := h.form'
  unfold maxLen at hm
  have OK := Lib.hid ok; clear ok
  go_enter Try.func64, Try.ntmps64
  go_wp2_with fail
  go_loopw [3] (fun i wr => ∃ k : Nat, k ≤ x.length ∧ i = .int .i64 k ∧ (∀ i, i < k → BayAt x i) ∧ Q w wr) (fun i _ => x.length - (intOf i).toNat)
  case atStart => exact ⟨0, Nat.zero_le _, rfl, by intro i h; omega, Q.refl _⟩
  case round =>
    obtain ⟨k, hk, rfl, ht', hq⟩ := hrel
    have ht := Lib.hid ht'; clear ht'
    by_cases hlt : k < x.length
    · obtain ⟨b1, o1, rfl, hA⟩ := (h.mono (hq.below _)).at hlt
      have hs := (OK.out _ (List.getElem_mem hlt)).1
      by_cases g : bayOk x[k]
      · by_cases h0 : 0 < k
        · have hk1 : k - 1 < x.length := by omega
          obtain ⟨b2, o2, e2, hA2⟩ := (h.mono (hq.below _)).at hk1
          simp only [Option.some.injEq, Addr.mk.injEq, and_true] at e2
          obtain ⟨rfl, rfl⟩ := e2
          have u0 := hA.c0
          have u1 := hA2.c0
          have z1 : ((k : Int) - 1).toNat = k - 1 := by omega
          have d0 : decide (0 < (k : Int)) = true := by simpa using h0
          have HA := Lib.hid hA; clear hA hA2
          by_cases g2 : Go.Op.bytesLess x[k - 1].id.toList x[k].id.toList = true
          · have G := Lib.hid g; have G2 := Lib.hid g2; clear g
            go_wp2_with fail
            go_quiet ((go_at_call 82; exact Calls.quiet_of_same (l16Bay_any true x[k] _ _ _ ⟨fun _ => G.out, fun _ => rfl⟩ hs ⟨HA.out.lt, HA.out.c0, HA.out.c1, HA.out.c2⟩)))
            go_wp2
            go_roundw
            case rel => exact ⟨k + 1, by omega, by go_num, lt_step ht.out (fun _ => ⟨G.out, fun _ => G2.out⟩), hq.drewN _⟩
            case measure => simp [intOf]; omega
          · have H := Lib.hid (show ¬ BaysOk x from fun h => g2 ((h.all k hlt hlt).2 h0))
            have d1 : Go.Op.bytesLess x[k - 1].id.toList x[k].id.toList = false := by simpa using g2
            have G := Lib.hid g; clear g g2
            go_wp2_with fail
            go_quiet ((go_at_call 82; exact Calls.quiet_of_same (l16Bay_any true x[k] _ _ _ ⟨fun _ => G.out, fun _ => rfl⟩ hs ⟨HA.out.lt, HA.out.c0, HA.out.c1, HA.out.c2⟩)))
            go_wp2
            go_ret
            exact ⟨ret_bool (finbaysB (by simpa using H.out)), hq.drewN _⟩
        · have d0 : decide (0 < (k : Int)) = false := by simpa using h0
          have G := Lib.hid g; have HA := Lib.hid hA; clear g hA
          go_wp2_with fail
          go_quiet ((go_at_call 82; exact Calls.quiet_of_same (l16Bay_any true x[k] _ _ _ ⟨fun _ => G.out, fun _ => rfl⟩ hs ⟨HA.out.lt, HA.out.c0, HA.out.c1, HA.out.c2⟩)))
          go_wp2
          go_roundw
          case rel => exact ⟨k + 1, by omega, by go_num, lt_step ht.out (fun _ => ⟨G.out, fun h => absurd h (by omega)⟩), hq.drewN _⟩
          case measure => simp [intOf]; omega
      · have H := Lib.hid (show ¬ BaysOk x from fun h => g (h.all k hlt hlt).1)
        have G := Lib.hid g; have HA := Lib.hid hA; clear g hA
        go_wp2_with fail
        go_quiet ((go_at_call 82; exact Calls.quiet_of_same (l16Bay_any false x[k] _ _ _ ⟨(fun h => by cases h), fun h => absurd h G.out⟩ hs ⟨HA.out.lt, HA.out.c0, HA.out.c1, HA.out.c2⟩)))
        go_wp2
        go_ret
        exact ⟨ret_bool (finbaysB (by simpa using H.out)), hq.drewN _⟩
    · have T := Lib.hid (show ∀ k, k < x.length → BayAt x k from fun i hi => ht.out i (by omega))
      have H := Lib.hid (show decide ((x.length : Int) ≤ 8) = baysB x from finbaysB ⟨fun h => by have := h.len; simp; omega, fun h => ⟨T.out, by have := of_decide_eq_true h; omega⟩⟩)
      go_wp2
      go_ret
      exact ⟨ret_bool H.out, hq⟩

set_option maxHeartbeats 2000000 in
theorem ValidBays_any (v : Value) (x : List BayD) (w : World) (h : RdBayDs w v x) (ok : okBayDs x) :
    Calls Try.prog 35 #[v] w fun e w' => e = .returned (.bool (baysB x)) ∧ Below w.heap.size w w' := by
  obtain ⟨a, ca, rfl, hm⟩ := h.form'
  unfold maxLen at hm
  have OK := Lib.hid ok; clear ok
  go_enter Try.func35, Try.ntmps35
  go_wp2_with fail
  go_loopw [7, 3, 4] (fun i _ _ wr => ∃ k : Nat, k ≤ x.length ∧ i = .int .i64 k ∧ (∀ i, i < k → BayAt x i) ∧ Below w.heap.size w wr) (fun i _ _ _ => x.length - (intOf i).toNat)
  case atStart => exact ⟨0, Nat.zero_le _, rfl, by intro i h; omega, Below.refl _ _⟩
  case round =>
    obtain ⟨k, hk, rfl, ht', hb⟩ := hrel
    have ht := Lib.hid ht'; clear ht'
    by_cases hlt : k < x.length
    · obtain ⟨b1, o1, rfl, hA⟩ := (h.mono hb).at hlt
      have hs := (OK.out _ (List.getElem_mem hlt)).1
      obtain ⟨hB, u0, u1, u2⟩ := id hA
      have l1 : b1 < wr.heap.size + 1 := by omega
      have HA := Lib.hid hA; clear hA
      by_cases g : bayOk x[k]
      · by_cases h0 : 0 < k
        · have hk1 : k - 1 < x.length := by omega
          obtain ⟨b2, o2, e2, hA2⟩ := (h.mono hb).at hk1
          simp only [Option.some.injEq, Addr.mk.injEq, and_true] at e2
          obtain ⟨rfl, rfl⟩ := e2
          have p0 := hA2.c0
          have z0 : decide (0 < (k : Int)) = true := by simpa using h0
          have z1 : ((k : Int) - 1).toNat = k - 1 := by omega
          have w2' : IntKind.i64.wrap ((k : Int) - 1) = (k : Int) - 1 := IntWalk.i64_in _ (by omega)
          have w3' : (1 : Int) ≤ (k : Int) := by omega
          have w4' : (k : Int) - 1 < (x.length : Int) := by omega
          clear hA2
          by_cases g2 : Go.Op.bytesLess x[k - 1].id.toList x[k].id.toList = true
          · have d1 : (Go.Op.bytesLess x[k].id.toList x[k - 1].id.toList || x[k].id.toList == x[k - 1].id.toList) = false := by rw [less_total, g2]; rfl
            obtain ⟨d2, d3⟩ := Bool.or_eq_false_iff.1 d1
            have G := Lib.hid g; have G2 := Lib.hid g2; clear g g2 d1
            go_wp2_with fail
            refine wp_region_ord [(0, true), (1, false), (2, true), (3, true), (4, true), (5, true), (6, true), (7, true), (8, true), (9, true), (10, true), (11, true), (12, true), (13, true), (14, true), (15, true), (16, true), (17, true)] (none) (by kernel_rfl) (by kernel_rfl) ?_
            (repeat (with_reducible refine wpOrd_soft (fun K hK => ?_); simp only [List.getElem?_toArray, List.getElem?_cons_zero, List.getElem?_cons_succ]; first | (go_simp; refine hK _ ?_) | (simp only [undef]; go_simp; refine hK _ ?_); clear hK K))
            (with_reducible refine wpOrd_hard ?_; simp only [List.getElem?_toArray, List.getElem?_cons_zero, List.getElem?_cons_succ])
            go_wp2_with fail
            refine (validBay_any true x[k] _ ⟨fun _ => G.out, fun _ => rfl⟩ hs).mono ?_
            rintro e w2 ⟨rfl, hb1⟩
            have hb1 := undrew hb1
            go_wp2_with fail
            refine ⟨grown_of_below hb1, ?_⟩
            (repeat (with_reducible refine wpOrd_soft (fun K hK => ?_); simp only [List.getElem?_toArray, List.getElem?_cons_zero, List.getElem?_cons_succ]; first | (go_simp; refine hK _ ?_) | (simp only [undef]; go_simp; refine hK _ ?_); clear hK K))
            (with_reducible refine wpOrd_nil ?_); refine NoPanic.normal ?_
            have hb2 : Below w.heap.size w w2 := hb.trans ((Below.trans (by (repeat (first | with_reducible exact Below.refl _ _ | with_reducible exact hbw | (with_reducible refine Below.setCell ?_ ?_ _; rotate_left; · first | exact Nat.le_refl _ | omega | (simp; done) | (simp; omega)) | (with_reducible refine Below.alloc ?_ ?_ _; rotate_left; · first | exact Nat.le_refl _ | omega | (simp; done) | (simp; omega)) | with_reducible refine below_drewN ?_ _ | with_reducible refine Below.drew ?_))) (hb1.mono (by simp))).mono hb.size)
            clear w2'
            go_wp2
            go_roundw
            case rel => exact ⟨k + 1, by omega, by go_num, lt_step ht.out (fun _ => ⟨G.out, fun _ => G2.out⟩), hb2⟩
            case measure => simp [intOf]; omega
          · have H := Lib.hid (show ¬ BaysOk x from fun h => g2 ((h.all k hlt hlt).2 h0))
            have d1 : (Go.Op.bytesLess x[k].id.toList x[k - 1].id.toList || x[k].id.toList == x[k - 1].id.toList) = true := by rw [less_total, show Go.Op.bytesLess x[k - 1].id.toList x[k].id.toList = false by simpa using g2]; rfl
            have G := Lib.hid g; clear g g2
            go_wp2_with fail
            refine wp_region_ord [(0, true), (1, false), (2, true), (3, true), (4, true), (5, true), (6, true), (7, true), (8, true), (9, true), (10, true), (11, true), (12, true), (13, true), (14, true), (15, true), (16, true), (17, true)] (none) (by kernel_rfl) (by kernel_rfl) ?_
            (repeat (with_reducible refine wpOrd_soft (fun K hK => ?_); simp only [List.getElem?_toArray, List.getElem?_cons_zero, List.getElem?_cons_succ]; first | (go_simp; refine hK _ ?_) | (simp only [undef]; go_simp; refine hK _ ?_); clear hK K))
            (with_reducible refine wpOrd_hard ?_; simp only [List.getElem?_toArray, List.getElem?_cons_zero, List.getElem?_cons_succ])
            go_wp2_with fail
            refine (validBay_any true x[k] _ ⟨fun _ => G.out, fun _ => rfl⟩ hs).mono ?_
            rintro e w2 ⟨rfl, hb1⟩
            have hb1 := undrew hb1
            go_wp2_with fail
            refine ⟨grown_of_below hb1, ?_⟩
            (repeat (with_reducible refine wpOrd_soft (fun K hK => ?_); simp only [List.getElem?_toArray, List.getElem?_cons_zero, List.getElem?_cons_succ]; first | (go_simp; refine hK _ ?_) | (simp only [undef]; go_simp; refine hK _ ?_); clear hK K))
            (with_reducible refine wpOrd_nil ?_); refine NoPanic.normal ?_
            have hb2 : Below w.heap.size w w2 := hb.trans ((Below.trans (by (repeat (first | with_reducible exact Below.refl _ _ | with_reducible exact hbw | (with_reducible refine Below.setCell ?_ ?_ _; rotate_left; · first | exact Nat.le_refl _ | omega | (simp; done) | (simp; omega)) | (with_reducible refine Below.alloc ?_ ?_ _; rotate_left; · first | exact Nat.le_refl _ | omega | (simp; done) | (simp; omega)) | with_reducible refine below_drewN ?_ _ | with_reducible refine Below.drew ?_))) (hb1.mono (by simp))).mono hb.size)
            clear w2'
            go_wp2
            go_ret
            exact ⟨ret_bool (finbaysB (by simpa using H.out)), hb2⟩
        · have z0 : decide (0 < (k : Int)) = false := by simpa using h0
          have w2' : True := trivial
          have G := Lib.hid g; clear g
          go_wp2_with fail
          refine wp_region_ord [(0, true), (1, false), (2, true), (3, true), (4, true), (5, true), (6, true), (7, true), (8, true), (9, true), (10, true), (11, true), (12, true), (13, true), (14, true), (15, true), (16, true), (17, true)] (none) (by kernel_rfl) (by kernel_rfl) ?_
          (repeat (with_reducible refine wpOrd_soft (fun K hK => ?_); simp only [List.getElem?_toArray, List.getElem?_cons_zero, List.getElem?_cons_succ]; first | (go_simp; refine hK _ ?_) | (simp only [undef]; go_simp; refine hK _ ?_); clear hK K))
          (with_reducible refine wpOrd_hard ?_; simp only [List.getElem?_toArray, List.getElem?_cons_zero, List.getElem?_cons_succ])
          go_wp2_with fail
          refine (validBay_any true x[k] _ ⟨fun _ => G.out, fun _ => rfl⟩ hs).mono ?_
          rintro e w2 ⟨rfl, hb1⟩
          have hb1 := undrew hb1
          go_wp2_with fail
          refine ⟨grown_of_below hb1, ?_⟩
          (repeat (with_reducible refine wpOrd_soft (fun K hK => ?_); simp only [List.getElem?_toArray, List.getElem?_cons_zero, List.getElem?_cons_succ]; first | (go_simp; refine hK _ ?_) | (simp only [undef]; go_simp; refine hK _ ?_); clear hK K))
          (with_reducible refine wpOrd_nil ?_); refine NoPanic.normal ?_
          have hb2 : Below w.heap.size w w2 := hb.trans ((Below.trans (by (repeat (first | with_reducible exact Below.refl _ _ | with_reducible exact hbw | (with_reducible refine Below.setCell ?_ ?_ _; rotate_left; · first | exact Nat.le_refl _ | omega | (simp; done) | (simp; omega)) | (with_reducible refine Below.alloc ?_ ?_ _; rotate_left; · first | exact Nat.le_refl _ | omega | (simp; done) | (simp; omega)) | with_reducible refine below_drewN ?_ _ | with_reducible refine Below.drew ?_))) (hb1.mono (by simp))).mono hb.size)
          clear w2'
          go_wp2
          go_roundw
          case rel => exact ⟨k + 1, by omega, by go_num, lt_step ht.out (fun _ => ⟨G.out, fun h => absurd h (by omega)⟩), hb2⟩
          case measure => simp [intOf]; omega
      · have H := Lib.hid (show ¬ BaysOk x from fun h => g (h.all k hlt hlt).1)
        have w2' : True := trivial
        have G := Lib.hid g; clear g
        go_wp2_with fail
        refine wp_region_ord [(0, true), (1, false), (2, true), (3, true), (4, true), (5, true), (6, true), (7, true), (8, true), (9, true), (10, true), (11, true), (12, true), (13, true), (14, true), (15, true), (16, true), (17, true)] (none) (by kernel_rfl) (by kernel_rfl) ?_
        (repeat (with_reducible refine wpOrd_soft (fun K hK => ?_); simp only [List.getElem?_toArray, List.getElem?_cons_zero, List.getElem?_cons_succ]; first | (go_simp; refine hK _ ?_) | (simp only [undef]; go_simp; refine hK _ ?_); clear hK K))
        (with_reducible refine wpOrd_hard ?_; simp only [List.getElem?_toArray, List.getElem?_cons_zero, List.getElem?_cons_succ])
        go_wp2_with fail
        refine (validBay_any false x[k] _ ⟨(fun h => by cases h), fun h => absurd h G.out⟩ hs).mono ?_
        rintro e w2 ⟨rfl, hb1⟩
        have hb1 := undrew hb1
        go_wp2_with fail
        refine ⟨grown_of_below hb1, ?_⟩
        (repeat (with_reducible refine wpOrd_soft (fun K hK => ?_); simp only [List.getElem?_toArray, List.getElem?_cons_zero, List.getElem?_cons_succ]; first | (go_simp; refine hK _ ?_) | (simp only [undef]; go_simp; refine hK _ ?_); clear hK K))
        (with_reducible refine wpOrd_nil ?_); refine NoPanic.normal ?_
        have hb2 : Below w.heap.size w w2 := hb.trans ((Below.trans (by (repeat (first | with_reducible exact Below.refl _ _ | with_reducible exact hbw | (with_reducible refine Below.setCell ?_ ?_ _; rotate_left; · first | exact Nat.le_refl _ | omega | (simp; done) | (simp; omega)) | (with_reducible refine Below.alloc ?_ ?_ _; rotate_left; · first | exact Nat.le_refl _ | omega | (simp; done) | (simp; omega)) | with_reducible refine below_drewN ?_ _ | with_reducible refine Below.drew ?_))) (hb1.mono (by simp))).mono hb.size)
        clear w2'
        go_wp2
        go_ret
        exact ⟨ret_bool (finbaysB (by simpa using H.out)), hb2⟩
    · have T := Lib.hid (show ∀ k, k < x.length → BayAt x k from fun i hi => ht.out i (by omega))
      have H := Lib.hid (show decide ((x.length : Int) ≤ 8) = baysB x from finbaysB ⟨fun h => by have := h.len; simp; omega, fun h => ⟨T.out, by have := of_decide_eq_true h; omega⟩⟩)
      go_wp2
      go_ret
      exact ⟨ret_bool H.out, hb⟩

/-- The casting at k is right, and its name is above that of the one before. -/
def CasAt (xs : List CasD) (k : Nat) : Prop := ∀ h : k < xs.length, casOk xs[k] ∧ (0 < k → Go.Op.bytesLess (xs[k - 1]'(by omega)).bell.toList xs[k].bell.toList = true)
structure CassOk (xs : List CasD) : Prop where
  all : ∀ k, k < xs.length → CasAt xs k
  len : xs.length ≤ 12
noncomputable instance (xs : List CasD) : Decidable (CassOk xs) := Classical.propDecidable _
noncomputable def cassB (xs : List CasD) : Bool := decide (CassOk xs)
theorem cassB_iff {xs : List CasD} : cassB xs = true ↔ CassOk xs := by simp [cassB]
theorem fincassB {xs : List CasD} {b : Bool} (h : CassOk xs ↔ b = true) : b = cassB xs := by cases b <;> simp [cassB] at h ⊢ <;> exact h
theorem CassOk.ok {xs : List CasD} (h : CassOk xs) {k : Nat} (hk : k < xs.length) : casOk xs[k] := (h.all k hk hk).1

set_option maxHeartbeats 2000000 in
theorem l16Castings_any (v : Value) (x : List CasD) (w : World) (h : RdCasDs w v x) (ok : okCasDs x) :
    Calls Try.prog 65 #[v] w fun e w' => e = .returned (.bool (cassB x)) ∧ Q w w' := by
  obtain ⟨a, ca, rfl, hm⟩ := h.form'
  unfold maxLen at hm
  have OK := Lib.hid ok; clear ok
  go_enter Try.func65, Try.ntmps65
  go_wp2_with fail
  go_loopw [3] (fun i wr => ∃ k : Nat, k ≤ x.length ∧ i = .int .i64 k ∧ (∀ i, i < k → CasAt x i) ∧ Q w wr) (fun i _ => x.length - (intOf i).toNat)
  case atStart => exact ⟨0, Nat.zero_le _, rfl, by intro i h; omega, Q.refl _⟩
  case round =>
    obtain ⟨k, hk, rfl, ht', hq⟩ := hrel
    have ht := Lib.hid ht'; clear ht'
    by_cases hlt : k < x.length
    · obtain ⟨b1, o1, rfl, hA⟩ := (h.mono (hq.below _)).at hlt
      have hs := (OK.out _ (List.getElem_mem hlt)).1
      by_cases g : casOk x[k]
      · by_cases h0 : 0 < k
        · have hk1 : k - 1 < x.length := by omega
          obtain ⟨b2, o2, e2, hA2⟩ := (h.mono (hq.below _)).at hk1
          simp only [Option.some.injEq, Addr.mk.injEq, and_true] at e2
          obtain ⟨rfl, rfl⟩ := e2
          have u0 := hA.c0
          have u1 := hA2.c0
          have z1 : ((k : Int) - 1).toNat = k - 1 := by omega
          have d0 : decide (0 < (k : Int)) = true := by simpa using h0
          have HA := Lib.hid hA; clear hA hA2
          by_cases g2 : Go.Op.bytesLess x[k - 1].bell.toList x[k].bell.toList = true
          · have G := Lib.hid g; have G2 := Lib.hid g2; clear g
            go_wp2_with fail
            go_quiet ((go_at_call 83; exact Calls.quiet_of_same (l16One_any true x[k] _ _ _ ⟨fun _ => G.out, fun _ => rfl⟩ hs ⟨HA.out.lt, HA.out.c0, HA.out.c1, HA.out.c2, HA.out.c3, HA.out.c4⟩)))
            go_wp2
            go_roundw
            case rel => exact ⟨k + 1, by omega, by go_num, lt_step ht.out (fun _ => ⟨G.out, fun _ => G2.out⟩), hq.drewN _⟩
            case measure => simp [intOf]; omega
          · have H := Lib.hid (show ¬ CassOk x from fun h => g2 ((h.all k hlt hlt).2 h0))
            have d1 : Go.Op.bytesLess x[k - 1].bell.toList x[k].bell.toList = false := by simpa using g2
            have G := Lib.hid g; clear g g2
            go_wp2_with fail
            go_quiet ((go_at_call 83; exact Calls.quiet_of_same (l16One_any true x[k] _ _ _ ⟨fun _ => G.out, fun _ => rfl⟩ hs ⟨HA.out.lt, HA.out.c0, HA.out.c1, HA.out.c2, HA.out.c3, HA.out.c4⟩)))
            go_wp2
            go_ret
            exact ⟨ret_bool (fincassB (by simpa using H.out)), hq.drewN _⟩
        · have d0 : decide (0 < (k : Int)) = false := by simpa using h0
          have G := Lib.hid g; have HA := Lib.hid hA; clear g hA
          go_wp2_with fail
          go_quiet ((go_at_call 83; exact Calls.quiet_of_same (l16One_any true x[k] _ _ _ ⟨fun _ => G.out, fun _ => rfl⟩ hs ⟨HA.out.lt, HA.out.c0, HA.out.c1, HA.out.c2, HA.out.c3, HA.out.c4⟩)))
          go_wp2
          go_roundw
          case rel => exact ⟨k + 1, by omega, by go_num, lt_step ht.out (fun _ => ⟨G.out, fun h => absurd h (by omega)⟩), hq.drewN _⟩
          case measure => simp [intOf]; omega
      · have H := Lib.hid (show ¬ CassOk x from fun h => g (h.all k hlt hlt).1)
        have G := Lib.hid g; have HA := Lib.hid hA; clear g hA
        go_wp2_with fail
        go_quiet ((go_at_call 83; exact Calls.quiet_of_same (l16One_any false x[k] _ _ _ ⟨(fun h => by cases h), fun h => absurd h G.out⟩ hs ⟨HA.out.lt, HA.out.c0, HA.out.c1, HA.out.c2, HA.out.c3, HA.out.c4⟩)))
        go_wp2
        go_ret
        exact ⟨ret_bool (fincassB (by simpa using H.out)), hq.drewN _⟩
    · have T := Lib.hid (show ∀ k, k < x.length → CasAt x k from fun i hi => ht.out i (by omega))
      have H := Lib.hid (show decide ((x.length : Int) ≤ 12) = cassB x from fincassB ⟨fun h => by have := h.len; simp; omega, fun h => ⟨T.out, by have := of_decide_eq_true h; omega⟩⟩)
      go_wp2
      go_ret
      exact ⟨ret_bool H.out, hq⟩

set_option maxHeartbeats 2000000 in
theorem ValidCastings_any (v : Value) (x : List CasD) (w : World) (h : RdCasDs w v x) (ok : okCasDs x) :
    Calls Try.prog 36 #[v] w fun e w' => e = .returned (.bool (cassB x)) ∧ Below w.heap.size w w' := by
  obtain ⟨a, ca, rfl, hm⟩ := h.form'
  unfold maxLen at hm
  have OK := Lib.hid ok; clear ok
  go_enter Try.func36, Try.ntmps36
  go_wp2_with fail
  go_loopw [7, 3, 4] (fun i _ _ wr => ∃ k : Nat, k ≤ x.length ∧ i = .int .i64 k ∧ (∀ i, i < k → CasAt x i) ∧ Below w.heap.size w wr) (fun i _ _ _ => x.length - (intOf i).toNat)
  case atStart => exact ⟨0, Nat.zero_le _, rfl, by intro i h; omega, Below.refl _ _⟩
  case round =>
    obtain ⟨k, hk, rfl, ht', hb⟩ := hrel
    have ht := Lib.hid ht'; clear ht'
    by_cases hlt : k < x.length
    · obtain ⟨b1, o1, rfl, hA⟩ := (h.mono hb).at hlt
      have hs := (OK.out _ (List.getElem_mem hlt)).1
      obtain ⟨hB, u0, u1, u2, u3, u4⟩ := id hA
      have l1 : b1 < wr.heap.size + 1 := by omega
      have HA := Lib.hid hA; clear hA
      by_cases g : casOk x[k]
      · by_cases h0 : 0 < k
        · have hk1 : k - 1 < x.length := by omega
          obtain ⟨b2, o2, e2, hA2⟩ := (h.mono hb).at hk1
          simp only [Option.some.injEq, Addr.mk.injEq, and_true] at e2
          obtain ⟨rfl, rfl⟩ := e2
          have p0 := hA2.c0
          have z0 : decide (0 < (k : Int)) = true := by simpa using h0
          have z1 : ((k : Int) - 1).toNat = k - 1 := by omega
          have w2' : IntKind.i64.wrap ((k : Int) - 1) = (k : Int) - 1 := IntWalk.i64_in _ (by omega)
          have w3' : (1 : Int) ≤ (k : Int) := by omega
          have w4' : (k : Int) - 1 < (x.length : Int) := by omega
          clear hA2
          by_cases g2 : Go.Op.bytesLess x[k - 1].bell.toList x[k].bell.toList = true
          · have d1 : (Go.Op.bytesLess x[k].bell.toList x[k - 1].bell.toList || x[k].bell.toList == x[k - 1].bell.toList) = false := by rw [less_total, g2]; rfl
            obtain ⟨d2, d3⟩ := Bool.or_eq_false_iff.1 d1
            have G := Lib.hid g; have G2 := Lib.hid g2; clear g g2 d1
            go_wp2_with fail
            refine wp_region_ord [(0, true), (1, false), (2, true), (3, true), (4, true), (5, true), (6, true), (7, true), (8, true), (9, true), (10, true), (11, true), (12, true), (13, true), (14, true), (15, true), (16, true), (17, true)] (none) (by kernel_rfl) (by kernel_rfl) ?_
            (repeat (with_reducible refine wpOrd_soft (fun K hK => ?_); simp only [List.getElem?_toArray, List.getElem?_cons_zero, List.getElem?_cons_succ]; first | (go_simp; refine hK _ ?_) | (simp only [undef]; go_simp; refine hK _ ?_); clear hK K))
            (with_reducible refine wpOrd_hard ?_; simp only [List.getElem?_toArray, List.getElem?_cons_zero, List.getElem?_cons_succ])
            go_wp2_with fail
            refine (validCasting_any true x[k] _ ⟨fun _ => G.out, fun _ => rfl⟩ hs).mono ?_
            rintro e w2 ⟨rfl, hb1⟩
            have hb1 := undrew hb1
            go_wp2_with fail
            refine ⟨grown_of_below hb1, ?_⟩
            (repeat (with_reducible refine wpOrd_soft (fun K hK => ?_); simp only [List.getElem?_toArray, List.getElem?_cons_zero, List.getElem?_cons_succ]; first | (go_simp; refine hK _ ?_) | (simp only [undef]; go_simp; refine hK _ ?_); clear hK K))
            (with_reducible refine wpOrd_nil ?_); refine NoPanic.normal ?_
            have hb2 : Below w.heap.size w w2 := hb.trans ((Below.trans (by (repeat (first | with_reducible exact Below.refl _ _ | with_reducible exact hbw | (with_reducible refine Below.setCell ?_ ?_ _; rotate_left; · first | exact Nat.le_refl _ | omega | (simp; done) | (simp; omega)) | (with_reducible refine Below.alloc ?_ ?_ _; rotate_left; · first | exact Nat.le_refl _ | omega | (simp; done) | (simp; omega)) | with_reducible refine below_drewN ?_ _ | with_reducible refine Below.drew ?_))) (hb1.mono (by simp))).mono hb.size)
            clear w2'
            go_wp2
            go_roundw
            case rel => exact ⟨k + 1, by omega, by go_num, lt_step ht.out (fun _ => ⟨G.out, fun _ => G2.out⟩), hb2⟩
            case measure => simp [intOf]; omega
          · have H := Lib.hid (show ¬ CassOk x from fun h => g2 ((h.all k hlt hlt).2 h0))
            have d1 : (Go.Op.bytesLess x[k].bell.toList x[k - 1].bell.toList || x[k].bell.toList == x[k - 1].bell.toList) = true := by rw [less_total, show Go.Op.bytesLess x[k - 1].bell.toList x[k].bell.toList = false by simpa using g2]; rfl
            have G := Lib.hid g; clear g g2
            go_wp2_with fail
            refine wp_region_ord [(0, true), (1, false), (2, true), (3, true), (4, true), (5, true), (6, true), (7, true), (8, true), (9, true), (10, true), (11, true), (12, true), (13, true), (14, true), (15, true), (16, true), (17, true)] (none) (by kernel_rfl) (by kernel_rfl) ?_
            (repeat (with_reducible refine wpOrd_soft (fun K hK => ?_); simp only [List.getElem?_toArray, List.getElem?_cons_zero, List.getElem?_cons_succ]; first | (go_simp; refine hK _ ?_) | (simp only [undef]; go_simp; refine hK _ ?_); clear hK K))
            (with_reducible refine wpOrd_hard ?_; simp only [List.getElem?_toArray, List.getElem?_cons_zero, List.getElem?_cons_succ])
            go_wp2_with fail
            refine (validCasting_any true x[k] _ ⟨fun _ => G.out, fun _ => rfl⟩ hs).mono ?_
            rintro e w2 ⟨rfl, hb1⟩
            have hb1 := undrew hb1
            go_wp2_with fail
            refine ⟨grown_of_below hb1, ?_⟩
            (repeat (with_reducible refine wpOrd_soft (fun K hK => ?_); simp only [List.getElem?_toArray, List.getElem?_cons_zero, List.getElem?_cons_succ]; first | (go_simp; refine hK _ ?_) | (simp only [undef]; go_simp; refine hK _ ?_); clear hK K))
            (with_reducible refine wpOrd_nil ?_); refine NoPanic.normal ?_
            have hb2 : Below w.heap.size w w2 := hb.trans ((Below.trans (by (repeat (first | with_reducible exact Below.refl _ _ | with_reducible exact hbw | (with_reducible refine Below.setCell ?_ ?_ _; rotate_left; · first | exact Nat.le_refl _ | omega | (simp; done) | (simp; omega)) | (with_reducible refine Below.alloc ?_ ?_ _; rotate_left; · first | exact Nat.le_refl _ | omega | (simp; done) | (simp; omega)) | with_reducible refine below_drewN ?_ _ | with_reducible refine Below.drew ?_))) (hb1.mono (by simp))).mono hb.size)
            clear w2'
            go_wp2
            go_ret
            exact ⟨ret_bool (fincassB (by simpa using H.out)), hb2⟩
        · have z0 : decide (0 < (k : Int)) = false := by simpa using h0
          have w2' : True := trivial
          have G := Lib.hid g; clear g
          go_wp2_with fail
          refine wp_region_ord [(0, true), (1, false), (2, true), (3, true), (4, true), (5, true), (6, true), (7, true), (8, true), (9, true), (10, true), (11, true), (12, true), (13, true), (14, true), (15, true), (16, true), (17, true)] (none) (by kernel_rfl) (by kernel_rfl) ?_
          (repeat (with_reducible refine wpOrd_soft (fun K hK => ?_); simp only [List.getElem?_toArray, List.getElem?_cons_zero, List.getElem?_cons_succ]; first | (go_simp; refine hK _ ?_) | (simp only [undef]; go_simp; refine hK _ ?_); clear hK K))
          (with_reducible refine wpOrd_hard ?_; simp only [List.getElem?_toArray, List.getElem?_cons_zero, List.getElem?_cons_succ])
          go_wp2_with fail
          refine (validCasting_any true x[k] _ ⟨fun _ => G.out, fun _ => rfl⟩ hs).mono ?_
          rintro e w2 ⟨rfl, hb1⟩
          have hb1 := undrew hb1
          go_wp2_with fail
          refine ⟨grown_of_below hb1, ?_⟩
          (repeat (with_reducible refine wpOrd_soft (fun K hK => ?_); simp only [List.getElem?_toArray, List.getElem?_cons_zero, List.getElem?_cons_succ]; first | (go_simp; refine hK _ ?_) | (simp only [undef]; go_simp; refine hK _ ?_); clear hK K))
          (with_reducible refine wpOrd_nil ?_); refine NoPanic.normal ?_
          have hb2 : Below w.heap.size w w2 := hb.trans ((Below.trans (by (repeat (first | with_reducible exact Below.refl _ _ | with_reducible exact hbw | (with_reducible refine Below.setCell ?_ ?_ _; rotate_left; · first | exact Nat.le_refl _ | omega | (simp; done) | (simp; omega)) | (with_reducible refine Below.alloc ?_ ?_ _; rotate_left; · first | exact Nat.le_refl _ | omega | (simp; done) | (simp; omega)) | with_reducible refine below_drewN ?_ _ | with_reducible refine Below.drew ?_))) (hb1.mono (by simp))).mono hb.size)
          clear w2'
          go_wp2
          go_roundw
          case rel => exact ⟨k + 1, by omega, by go_num, lt_step ht.out (fun _ => ⟨G.out, fun h => absurd h (by omega)⟩), hb2⟩
          case measure => simp [intOf]; omega
      · have H := Lib.hid (show ¬ CassOk x from fun h => g (h.all k hlt hlt).1)
        have w2' : True := trivial
        have G := Lib.hid g; clear g
        go_wp2_with fail
        refine wp_region_ord [(0, true), (1, false), (2, true), (3, true), (4, true), (5, true), (6, true), (7, true), (8, true), (9, true), (10, true), (11, true), (12, true), (13, true), (14, true), (15, true), (16, true), (17, true)] (none) (by kernel_rfl) (by kernel_rfl) ?_
        (repeat (with_reducible refine wpOrd_soft (fun K hK => ?_); simp only [List.getElem?_toArray, List.getElem?_cons_zero, List.getElem?_cons_succ]; first | (go_simp; refine hK _ ?_) | (simp only [undef]; go_simp; refine hK _ ?_); clear hK K))
        (with_reducible refine wpOrd_hard ?_; simp only [List.getElem?_toArray, List.getElem?_cons_zero, List.getElem?_cons_succ])
        go_wp2_with fail
        refine (validCasting_any false x[k] _ ⟨(fun h => by cases h), fun h => absurd h G.out⟩ hs).mono ?_
        rintro e w2 ⟨rfl, hb1⟩
        have hb1 := undrew hb1
        go_wp2_with fail
        refine ⟨grown_of_below hb1, ?_⟩
        (repeat (with_reducible refine wpOrd_soft (fun K hK => ?_); simp only [List.getElem?_toArray, List.getElem?_cons_zero, List.getElem?_cons_succ]; first | (go_simp; refine hK _ ?_) | (simp only [undef]; go_simp; refine hK _ ?_); clear hK K))
        (with_reducible refine wpOrd_nil ?_); refine NoPanic.normal ?_
        have hb2 : Below w.heap.size w w2 := hb.trans ((Below.trans (by (repeat (first | with_reducible exact Below.refl _ _ | with_reducible exact hbw | (with_reducible refine Below.setCell ?_ ?_ _; rotate_left; · first | exact Nat.le_refl _ | omega | (simp; done) | (simp; omega)) | (with_reducible refine Below.alloc ?_ ?_ _; rotate_left; · first | exact Nat.le_refl _ | omega | (simp; done) | (simp; omega)) | with_reducible refine below_drewN ?_ _ | with_reducible refine Below.drew ?_))) (hb1.mono (by simp))).mono hb.size)
        clear w2'
        go_wp2
        go_ret
        exact ⟨ret_bool (fincassB (by simpa using H.out)), hb2⟩
    · have T := Lib.hid (show ∀ k, k < x.length → CasAt x k from fun i hi => ht.out i (by omega))
      have H := Lib.hid (show decide ((x.length : Int) ≤ 12) = cassB x from fincassB ⟨fun h => by have := h.len; simp; omega, fun h => ⟨T.out, by have := of_decide_eq_true h; omega⟩⟩)
      go_wp2
      go_ret
      exact ⟨ret_bool H.out, hb⟩

end Go.Proofs.Yteaijhmgfddjiaa
