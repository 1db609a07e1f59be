/- The root and the room between two places. -/
import Derived.Test.YteaijhmgfddjiaaDoorPlcW
import Derived.Test.YteaijhmgfddjiaaDoorReg2
set_option linter.unusedSimpArgs false
set_option linter.unnecessarySimpa false
set_option linter.unusedVariables false
set_option maxRecDepth 100000
namespace Go.Proofs.YteaijhmgfddjiaaDoor
open Go.RowKit

theorem half_pow {b : Int} {j : Nat} (h : b = 2 ^ j) : (j = 0 → b / 2 = 0) ∧ (0 < j → b / 2 = 2 ^ (j - 1)) ∧ 2 * (b / 2) ≤ b := by
  refine ⟨fun hj => by subst hj; subst h; decide, fun hj => ?_, by omega⟩
  obtain ⟨i, rfl⟩ : ∃ i, j = i + 1 := ⟨j - 1, by omega⟩
  rw [Int.pow_succ] at h
  rw [Nat.add_sub_cancel]; omega
set_option maxHeartbeats 1000000 in
theorem RootOf_any (o n : Int) (w : World) (hn : n ≤ 9000000000000000000) (ho : o = rootV n) :
    Calls Tryd.prog 29 #[.int .i64 n] w fun e w' => e = .returned (.int .i64 o) ∧ w' = w := by
  by_cases h0 : n ≤ 0
  · have HO := Lib.hid (show o = 0 by rw [ho]; exact if_pos h0)
    have d0 : decide (n ≤ 0) = true := decide_eq_true h0
    clear ho
    go_enter Tryd.func29, Tryd.ntmps29
    go_wp2
    go_ret
    exact ⟨by rw [HO.out]; rfl, rfl⟩
  · have HO := Lib.hid (show rootF n 32 0 = o by rw [ho]; exact (if_neg h0).symm)
    have d0 : decide (n ≤ 0) = false := decide_eq_false h0
    clear ho
    go_enter Tryd.func29, Tryd.ntmps29
    go_wp2_with fail
    go_loopw [3, 4] (fun rv bv wr => ∃ (k : Nat) (r b : Int), rv = .int .i64 r ∧ bv = .int .i64 b ∧ k ≤ 32 ∧ 2 * b ≤ 4294967296 ∧ (k = 0 → b = 0) ∧ (0 < k → b = 2 ^ (k - 1)) ∧ 0 ≤ r ∧ 0 ≤ b ∧ r + 2 * b ≤ 4294967296 ∧ rootF n k r = o ∧ wr = w) (fun _ bv _ => (intOf bv).toNat)
    case atStart => exact ⟨32, 0, 2147483648, rfl, rfl, by omega, by omega, by omega, fun _ => by decide, by omega, by omega, by omega, HO.out, rfl⟩
    case round =>
      obtain ⟨k, r, b, rfl, rfl, hk, hb2, hz, hp, hr, hb, hrb, hF, rfl⟩ := hrel
      by_cases hb0 : 0 < b
      · have hk0 : 0 < k := Nat.pos_of_ne_zero fun h => by have := hz h; omega
        obtain ⟨j, rfl⟩ : ∃ j, k = j + 1 := ⟨k - 1, by omega⟩
        have hpb := hp (by omega)
        rw [Nat.add_sub_cancel] at hpb
        have hpb' := hpb
        have HPB := Lib.hid hpb; have HF := Lib.hid hF
        clear hpb hF hp hz
        have wr1 : IntKind.i64.wrap (r + b) = r + b := IntWalk.i64_in _ (by omega)
        have nz : ¬ r + b = 0 := by omega
        obtain ⟨q1, q2, q3⟩ := half_pow hpb'
        clear hpb'
        by_cases hc : r + b ≤ n / (r + b)
        · have d1 : decide (r + b ≤ n / (r + b)) = true := decide_eq_true hc
          have HE := Lib.hid (show rootF n j (r + b) = o by rw [← HF.out]; conv => rhs; unfold rootF
                                                            rw [← HPB.out, if_pos hc])
          go_wp2_with fail
          exact ⟨⟨j, r + b, b / 2, rfl, rfl, by omega, by omega, q1, q2, by omega, by omega, by omega, HE.out, trivial⟩, by simp [intOf]; omega⟩
        · have d1 : decide (r + b ≤ n / (r + b)) = false := decide_eq_false hc
          have HE := Lib.hid (show rootF n j r = o by rw [← HF.out]; conv => rhs; unfold rootF
                                                      rw [← HPB.out, if_neg hc])
          go_wp2_with fail
          exact ⟨⟨j, r, b / 2, rfl, rfl, by omega, by omega, q1, q2, by omega, by omega, by omega, HE.out, trivial⟩, by simp [intOf]; omega⟩
      · have hk0 : k = 0 := by
          cases k with
          | zero => rfl
          | succ j =>
            have := hp (Nat.succ_pos _)
            have h2 : (0 : Int) < 2 ^ (j + 1 - 1) := Int.pow_pos (by omega)
            omega
        subst hk0
        have HE := Lib.hid (show r = o from hF)
        go_wp2
        go_ret
        exact ⟨by rw [HE.out]; rfl, rfl⟩

theorem sq_bd {a b : PlcD} (ha : plcOk a) (hb : plcOk b) : sqV a b ≤ 9000000000000000000 := by
  obtain ⟨_, ⟨a1, a2⟩, ⟨a3, a4⟩, ⟨a5, a6⟩, _⟩ := ha
  obtain ⟨_, ⟨b1, b2⟩, ⟨b3, b4⟩, ⟨b5, b6⟩, _⟩ := hb
  have h1 := dif_bd a1 a2 b1 b2
  have h2 := dif_bd a3 a4 b3 b4
  have h3 := dif_bd a5 a6 b5 b6
  unfold sqV; omega
set_option maxHeartbeats 2000000 in
theorem clearance_any (o : Int) (a b : PlcD) (w : World) (ha : plcOk a) (hb : plcOk b) (ho : o = clr a b) :
    Calls Tryd.prog 19 #[.agg #[.string a.bell, .int .i64 a.x, .int .i64 a.y, .int .i64 a.z, .int .i64 a.reach], .agg #[.string b.bell, .int .i64 b.x, .int .i64 b.y, .int .i64 b.z, .int .i64 b.reach]] w fun e w' => e = .returned (.int .i64 o) ∧ Below w.heap.size w w' := by
  have hsq := sq_bd ha hb
  obtain ⟨s, hs⟩ : ∃ s, s = sqV a b := ⟨_, rfl⟩
  obtain ⟨q, hq⟩ : ∃ q, q = rootV s := ⟨_, rfl⟩
  have hqb : 0 ≤ q ∧ q ≤ 4294967295 := by rw [hq]; exact rootV_bd s
  rw [← hs] at hsq
  have HQ := Lib.hid hq
  have HO := Lib.hid (show q - a.reach - b.reach = o by rw [ho, hq, hs]; rfl)
  obtain ⟨_, ⟨a1, a2⟩, ⟨a3, a4⟩, ⟨a5, a6⟩, a7, a8⟩ := id ha
  obtain ⟨_, ⟨b1, b2⟩, ⟨b3, b4⟩, ⟨b5, b6⟩, b7, b8⟩ := id hb
  have m1 := dif_bd a1 a2 b1 b2
  have m2 := dif_bd a3 a4 b3 b4
  have m3 := dif_bd a5 a6 b5 b6
  obtain ⟨u1, hu1⟩ : ∃ u, u = (a.x - b.x) * (a.x - b.x) := ⟨_, rfl⟩
  obtain ⟨u2, hu2⟩ : ∃ u, u = (a.y - b.y) * (a.y - b.y) := ⟨_, rfl⟩
  obtain ⟨u3, hu3⟩ : ∃ u, u = (a.z - b.z) * (a.z - b.z) := ⟨_, rfl⟩
  have w1 : IntKind.i64.wrap (a.x - b.x) = a.x - b.x := IntWalk.i64_in _ (by omega)
  have w2 : IntKind.i64.wrap (a.y - b.y) = a.y - b.y := IntWalk.i64_in _ (by omega)
  have w3 : IntKind.i64.wrap (a.z - b.z) = a.z - b.z := IntWalk.i64_in _ (by omega)
  have w4 : IntKind.i64.wrap ((a.x - b.x) * (a.x - b.x)) = u1 := by rw [← hu1]; rw [← hu1] at m1; exact IntWalk.i64_in _ (by omega)
  have w5 : IntKind.i64.wrap ((a.y - b.y) * (a.y - b.y)) = u2 := by rw [← hu2]; rw [← hu2] at m2; exact IntWalk.i64_in _ (by omega)
  have w6 : IntKind.i64.wrap ((a.z - b.z) * (a.z - b.z)) = u3 := by rw [← hu3]; rw [← hu3] at m3; exact IntWalk.i64_in _ (by omega)
  rw [← hu1] at m1; rw [← hu2] at m2; rw [← hu3] at m3
  have w7 : IntKind.i64.wrap (u1 + u2) = u1 + u2 := IntWalk.i64_in _ (by omega)
  have w8 : IntKind.i64.wrap (u1 + u2 + u3) = s := by
    have e : s = u1 + u2 + u3 := by rw [hs, hu1, hu2, hu3]; rfl
    rw [e]; exact IntWalk.i64_in _ (by omega)
  have w9 : IntKind.i64.wrap (q - a.reach) = q - a.reach := IntWalk.i64_in _ (by omega)
  have w10 : IntKind.i64.wrap (q - a.reach - b.reach) = o := by rw [← HO.out]; exact IntWalk.i64_in _ (by omega)
  clear ho hs hq hu1 hu2 hu3 ha hb
  go_enter Tryd.func19, Tryd.ntmps19
  go_wp2_with fail
  obtain ⟨wA, hA⟩ : ∃ wA, wA = (w.alloc (Obj.cells #[.string a.bell, .int .i64 a.x, .int .i64 a.y, .int .i64 a.z, .int .i64 a.reach] 34)).alloc (Obj.cells #[.string b.bell, .int .i64 b.x, .int .i64 b.y, .int .i64 b.z, .int .i64 b.reach] 34) := ⟨_, rfl⟩
  have hB1 : Box wA w.heap.size [.string a.bell, .int .i64 a.x, .int .i64 a.y, .int .i64 a.z, .int .i64 a.reach] := by rw [hA]; exact (Box.alloc w _ _ _ rfl).mono (belowA _ _)
  have hB2 : Box wA (w.heap.size + 1) [.string b.bell, .int .i64 b.x, .int .i64 b.y, .int .i64 b.z, .int .i64 b.reach] := by rw [hA]; exact Box.alloc _ _ _ _ (by simp)
  have hbA : Below w.heap.size w wA := by rw [hA]; (repeat (first | with_reducible exact Below.refl _ _ | with_reducible exact hbw | (with_reducible refine Below.setCell ?_ ?_ _; rotate_left; · first | exact Nat.le_refl _ | omega | (simp; done) | (simp; omega)) | (with_reducible refine Below.alloc ?_ ?_ _; rotate_left; · first | exact Nat.le_refl _ | omega | (simp; done) | (simp; omega)) | with_reducible refine below_drewN ?_ _ | with_reducible refine Below.drew ?_))
  rw [← hA]
  clear hA
  have c1 := hB1.at' 1 _ rfl
  have c2 := hB1.at' 2 _ rfl
  have c3 := hB1.at' 3 _ rfl
  have c4 := hB1.at' 4 _ rfl
  have l1 := hB1.lt
  have e1 := hB2.at' 1 _ rfl
  have e2 := hB2.at' 2 _ rfl
  have e3 := hB2.at' 3 _ rfl
  have e4 := hB2.at' 4 _ rfl
  have l2 := hB2.lt
  go_quiet (fail)
  obtain ⟨wB, hB⟩ : ∃ wB, wB = wA.drewN nq := ⟨_, rfl⟩
  have hbd := Below.drawN (w := wA) nq
  rw [← hB] at hbd ⊢
  have hbB := hbA.trans (hbd.mono hbA.size)
  have hB1 := hB1.mono hbd
  have hB2 := hB2.mono hbd
  clear c1 c2 c3 c4 l1 e1 e2 e3 e4 l2 hB hbd
  have c4 := hB1.at' 4 _ rfl
  have l1 := hB1.lt
  have e4 := hB2.at' 4 _ rfl
  have l2 := hB2.lt
  go_wp2_with fail
  go_quiet ((go_at_call 29; exact Calls.quiet_of_same (RootOf_any q s _ hsq HQ.out)))
  go_wp2
  go_ret
  exact ⟨rfl, hbB.trans ((Below.drawN _).mono hbB.size)⟩

end Go.Proofs.YteaijhmgfddjiaaDoor
