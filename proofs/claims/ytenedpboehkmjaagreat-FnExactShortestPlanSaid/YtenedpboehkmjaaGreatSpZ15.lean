import Derived.Test.YtenedpboehkmjaaGreatChecked
import Derived.Test.YtenedpboehkmjaaGreatSpZ1
import Derived.IntWalk
import Derived.Deep.QuietTactic
import Derived.BigQuiet
import Derived.Test.YtenedpboehkmjaaGreatSpZ14
import Derived.Test.YtenedpboehkmjaaGreatSpZ2
import Derived.Test.YtenedpboehkmjaaGreatSpZ6
import Derived.Test.YtenedpboehkmjaaGreatSpZ5
import Derived.Test.YtenedpboehkmjaaGreatSpZ12
/- Contracts of abs, nearest and l01Div: the nearest quotient. -/
set_option linter.unusedSimpArgs false
set_option linter.unnecessarySimpa false
set_option linter.unusedVariables false
namespace Go.Proofs.YtenedpboehkmjaaGreat
open Go.RowKit

/-- The integer nearest to a / b, halves away from 0 (b above 0). -/
def near (a b : Int) : Int := if a < 0 then -((b - 2 * a) / (2 * b)) else (2 * a + b) / (2 * b)

theorem ediv_is {x y q : Int} (hy : 0 < y) (h1 : q * y ≤ x) (h2 : x < q * y + y) : x / y = q := by
  apply Int.le_antisymm
  · exact Int.lt_add_one_iff.1 (Int.ediv_lt_of_lt_mul hy (by rw [Int.add_mul, Int.one_mul]; exact h2))
  · exact Int.le_ediv_of_mul_le hy h1

theorem near_up {a b : Int} (ha : 0 ≤ a) (hb : 0 < b) (h : b - a % b ≤ a % b) : near a b = a / b + 1 := by
  have e := Int.mul_ediv_add_emod a b
  have r1 := Int.emod_nonneg a (by omega : b ≠ 0)
  have r2 := Int.emod_lt_of_pos a hb
  unfold near
  rw [if_neg (by omega)]
  generalize a / b = q at *
  generalize a % b = r at *
  have e1 : (q + 1) * (2 * b) = 2 * (b * q) + 2 * b := by rw [Int.add_mul, Int.one_mul, Int.mul_left_comm q 2 b, Int.mul_comm q b]
  exact ediv_is (by omega) (by rw [e1]; omega) (by rw [e1]; omega)
theorem near_down {a b : Int} (ha : 0 ≤ a) (hb : 0 < b) (h : a % b < b - a % b) : near a b = a / b := by
  have e := Int.mul_ediv_add_emod a b
  have r1 := Int.emod_nonneg a (by omega : b ≠ 0)
  have r2 := Int.emod_lt_of_pos a hb
  unfold near
  rw [if_neg (by omega)]
  generalize a / b = q at *
  generalize a % b = r at *
  have e1 : q * (2 * b) = 2 * (b * q) := by rw [Int.mul_left_comm q 2 b, Int.mul_comm q b]
  exact ediv_is (by omega) (by rw [e1]; omega) (by rw [e1]; omega)
theorem near_neg {a b : Int} (ha : a < 0) : near a b = - near (-a) b := by
  unfold near
  rw [if_pos ha, if_neg (by omega), show b - 2 * a = 2 * -a + b by omega]
theorem near_nonneg {a b : Int} (ha : 0 ≤ a) (hb : 0 < b) : 0 ≤ near a b := by
  unfold near
  rw [if_neg (by omega)]
  exact Int.ediv_nonneg (by omega) (by omega)
theorem near_mono {a a' b : Int} (ha : 0 ≤ a) (h : a ≤ a') (hb : 0 < b) : near a b ≤ near a' b := by
  unfold near
  rw [if_neg (by omega), if_neg (by omega)]
  exact Int.ediv_le_ediv (by omega) (by omega)
theorem near_zero {b : Int} (hb : 0 < b) : near 0 b = 0 := by
  unfold near
  rw [if_neg (by omega)]
  exact Int.ediv_eq_zero_of_lt (by omega) (by omega)

theorem tdiv_bd {a b : Int} (h1 : -2000000000000000000 ≤ a) (h2 : a ≤ 2000000000000000000) (h3 : 1 ≤ b) : -2000000000000000000 ≤ a.tdiv b ∧ a.tdiv b ≤ 2000000000000000000 := by
  by_cases h : 0 ≤ a
  · rw [Int.tdiv_eq_ediv_of_nonneg h]
    have := Int.ediv_nonneg h (show (0 : Int) ≤ b by omega)
    have := Int.ediv_le_self b h
    omega
  · have e : a.tdiv b = -((-a) / b) := by rw [← Int.tdiv_eq_ediv_of_nonneg (by omega), Int.neg_tdiv, Int.neg_neg]
    have := Int.ediv_nonneg (show 0 ≤ -a by omega) (show (0 : Int) ≤ b by omega)
    have := Int.ediv_le_self b (show 0 ≤ -a by omega)
    omega
theorem tm_pos {a b : Int} (ha : ¬ a < 0) : a.tmod b = a % b := Int.tmod_eq_emod_of_nonneg (by omega)
theorem tm_neg {a b : Int} (ha : a < 0) : a.tmod b = -((-a) % b) := by
  rw [← Int.tmod_eq_emod_of_nonneg (by omega), Int.neg_tmod, Int.neg_neg]
theorem td_neg {a b : Int} (ha : a < 0) : a.tdiv b = -((-a) / b) := by rw [← Int.tdiv_eq_ediv_of_nonneg (by omega), Int.neg_tdiv, Int.neg_neg]
theorem near_tneg_up {a b : Int} (ha : a < 0) (hb : 1 ≤ b) (h : b - (if a.tmod b < 0 then -a.tmod b else a.tmod b) ≤ if a.tmod b < 0 then -a.tmod b else a.tmod b) : near a b = a.tdiv b - 1 := by
  have h0 := Int.emod_nonneg (-a) (show b ≠ 0 by omega)
  rw [tm_neg ha] at h
  rw [near_neg ha, td_neg ha, near_up (by omega) (by omega) (by split at h <;> omega)]; omega
theorem near_tneg_down {a b : Int} (ha : a < 0) (hb : 1 ≤ b) (h : (if a.tmod b < 0 then -a.tmod b else a.tmod b) < b - (if a.tmod b < 0 then -a.tmod b else a.tmod b)) : near a b = a.tdiv b := by
  have h0 := Int.emod_nonneg (-a) (show b ≠ 0 by omega)
  rw [tm_neg ha] at h
  rw [near_neg ha, td_neg ha, near_down (by omega) (by omega) (by split at h <;> omega)]
theorem near_tpos_up {a b : Int} (ha : ¬ a < 0) (hb : 1 ≤ b) (h : b - (if a.tmod b < 0 then -a.tmod b else a.tmod b) ≤ if a.tmod b < 0 then -a.tmod b else a.tmod b) : near a b = a.tdiv b + 1 := by
  have h0 := Int.emod_nonneg a (show b ≠ 0 by omega)
  rw [tm_pos ha] at h
  rw [Int.tdiv_eq_ediv_of_nonneg (by omega), near_up (by omega) (by omega) (by split at h <;> omega)]
theorem near_tpos_down {a b : Int} (ha : ¬ a < 0) (hb : 1 ≤ b) (h : (if a.tmod b < 0 then -a.tmod b else a.tmod b) < b - (if a.tmod b < 0 then -a.tmod b else a.tmod b)) : near a b = a.tdiv b := by
  have h0 := Int.emod_nonneg a (show b ≠ 0 by omega)
  rw [tm_pos ha] at h
  rw [Int.tdiv_eq_ediv_of_nonneg (by omega), near_down (by omega) (by omega) (by split at h <;> omega)]

set_option maxHeartbeats 400000 in
theorem l01Div_any (o a b : Int) (w : World) (h : o = near a b) (h1 : -2000000000000000000 ≤ a) (h2 : a ≤ 2000000000000000000) (h3 : 1 ≤ b) (h4 : b ≤ 1000000000000) :
    Calls Tryz.prog 88 #[.int .i64 a, .int .i64 b] w fun e w' => e = .returned (.int .i64 o) ∧ w' = w := by
  have d0 : decide (b < 0) = false := by simp; omega
  by_cases hn : a < 0
  · have d1 : decide (a < 0) = true := by simpa using hn
    have H := Lib.hid (show o = -((b - 2 * a) / (2 * b)) by rw [h]; unfold near; rw [if_pos hn])
    have q0 := Int.ediv_nonneg (show 0 ≤ b - 2 * a by omega) (show 0 ≤ 2 * b by omega)
    have q1 := Int.ediv_le_self (2 * b) (show 0 ≤ b - 2 * a by omega)
    clear h
    go_enter Tryz.func88, Tryz.ntmps88
    go_wp2
    go_ret
    exact ⟨ret_int (by rw [H.out]), rfl⟩
  · have d1 : decide (a < 0) = false := by simpa using hn
    have h5 : 0 ≤ a := by omega
    have H := Lib.hid (show o = (2 * a + b) / (2 * b) by rw [h]; unfold near; rw [if_neg hn])
    clear h
    go_enter Tryz.func88, Tryz.ntmps88
    go_wp2
    go_ret
    exact ⟨ret_int (by rw [H.out]), rfl⟩

theorem abs_any (o a : Int) (w : World) (h : o = if a < 0 then -a else a) (h1 : -9223372036854775807 ≤ a) (h2 : a ≤ 9223372036854775807) :
    Calls Tryz.prog 98 #[.int .i64 a] w fun e w' => e = .returned (.int .i64 o) ∧ w' = w := by
  by_cases hn : a < 0
  · have d1 : decide (a < 0) = true := by simpa using hn
    have H := Lib.hid (show o = -a by rw [h, if_pos hn])
    clear h
    go_enter Tryz.func98, Tryz.ntmps98
    go_wp2
    go_ret
    exact ⟨ret_int (by rw [H.out]), rfl⟩
  · have d1 : decide (a < 0) = false := by simpa using hn
    have H := Lib.hid (show o = a by rw [h, if_neg hn])
    clear h
    go_enter Tryz.func98, Tryz.ntmps98
    go_wp2
    go_ret
    exact ⟨ret_int (by rw [H.out]), rfl⟩

set_option maxHeartbeats 1000000 in
theorem nearest_any (o a b : Int) (w : World) (h : o = near a b) (h1 : -2000000000000000000 ≤ a) (h2 : a ≤ 2000000000000000000) (h3 : 1 ≤ b) (h4 : b ≤ 1000000000000) :
    Calls Tryz.prog 103 #[.int .i64 a, .int .i64 b] w fun e w' => e = .returned (.int .i64 o) ∧ Q w w' := by
  have m1 : a.tmod b < b := Int.tmod_lt_of_pos a (by omega)
  have m2 : -b < a.tmod b := Int.lt_tmod_of_pos a (by omega)
  have q1 : -2000000000000000000 ≤ a.tdiv b ∧ a.tdiv b ≤ 2000000000000000000 := tdiv_bd h1 h2 h3
  obtain ⟨q1, q2⟩ := q1
  have g1 : IntKind.i64.wrap (a.tdiv b) = a.tdiv b := IntWalk.i64_in _ (by omega)
  have g2 : IntKind.i64.wrap (a.tmod b) = a.tmod b := IntWalk.i64_in _ (by omega)
  have g3 : (b == 0) = false := by simp; omega
  have g4 : decide (b < 0) = false := by simp; omega
  have g5 : ¬ b = 0 := by omega
  obtain ⟨r, hr⟩ : ∃ r, r = if a.tmod b < 0 then -a.tmod b else a.tmod b := ⟨_, rfl⟩
  have r0 : 0 ≤ r ∧ r < b := by rw [hr]; split <;> omega
  obtain ⟨r0, r1⟩ := r0
  have HR := Lib.hid hr; clear hr
  by_cases ha : a < 0
  · have e1 : decide (a < 0) = true := by simpa using ha
    by_cases hu : b - r ≤ r
    · have e2 : decide (b - r ≤ r) = true := by simpa using hu
      have H := Lib.hid (show o = a.tdiv b - 1 from h.trans (near_tneg_up ha h3 (by rw [← HR.out]; exact hu)))
      clear h
      go_enter Tryz.func103, Tryz.ntmps103
      go_wp2_with fail
      go_quiet ((go_at_call 98; exact Calls.quiet_of_same (abs_any r _ _ HR.out (by omega) (by omega))))
      clear g1 g2
      go_wp2_with fail
      refine (abs_any b b _ (by rw [if_neg (by omega)]) (by omega) (by omega)).mono ?_
      rintro e w1 ⟨rfl, rfl⟩
      go_wp2
      go_ret
      exact ⟨ret_int H.out.symm, _, rfl⟩
    · have e2 : decide (b - r ≤ r) = false := by simpa using hu
      have H := Lib.hid (show o = a.tdiv b from h.trans (near_tneg_down ha h3 (by rw [← HR.out]; omega)))
      clear h
      go_enter Tryz.func103, Tryz.ntmps103
      go_wp2_with fail
      go_quiet ((go_at_call 98; exact Calls.quiet_of_same (abs_any r _ _ HR.out (by omega) (by omega))))
      clear g1 g2
      go_wp2_with fail
      refine (abs_any b b _ (by rw [if_neg (by omega)]) (by omega) (by omega)).mono ?_
      rintro e w1 ⟨rfl, rfl⟩
      go_wp2
      go_ret
      exact ⟨ret_int H.out.symm, _, rfl⟩
  · have e1 : decide (a < 0) = false := by simpa using ha
    by_cases hu : b - r ≤ r
    · have e2 : decide (b - r ≤ r) = true := by simpa using hu
      have H := Lib.hid (show o = a.tdiv b + 1 from h.trans (near_tpos_up ha h3 (by rw [← HR.out]; exact hu)))
      clear h
      go_enter Tryz.func103, Tryz.ntmps103
      go_wp2_with fail
      go_quiet ((go_at_call 98; exact Calls.quiet_of_same (abs_any r _ _ HR.out (by omega) (by omega))))
      clear g1 g2
      go_wp2_with fail
      refine (abs_any b b _ (by rw [if_neg (by omega)]) (by omega) (by omega)).mono ?_
      rintro e w1 ⟨rfl, rfl⟩
      go_wp2
      go_ret
      exact ⟨ret_int H.out.symm, _, rfl⟩
    · have e2 : decide (b - r ≤ r) = false := by simpa using hu
      have H := Lib.hid (show o = a.tdiv b from h.trans (near_tpos_down ha h3 (by rw [← HR.out]; omega)))
      clear h
      go_enter Tryz.func103, Tryz.ntmps103
      go_wp2_with fail
      go_quiet ((go_at_call 98; exact Calls.quiet_of_same (abs_any r _ _ HR.out (by omega) (by omega))))
      clear g1 g2
      go_wp2_with fail
      refine (abs_any b b _ (by rw [if_neg (by omega)]) (by omega) (by omega)).mono ?_
      rintro e w1 ⟨rfl, rfl⟩
      go_wp2
      go_ret
      exact ⟨ret_int H.out.symm, _, rfl⟩

end Go.Proofs.YtenedpboehkmjaaGreat
/- Walls of zones: the plain law. Contracts of zoneEnd, wall, lip. -/
set_option linter.unusedSimpArgs false
set_option linter.unnecessarySimpa false
set_option linter.unusedVariables false
set_option maxRecDepth 100000
namespace Go.Proofs.YtenedpboehkmjaaGreat
open Go.RowKit

def zEnd (n : Int) (zs : List Int) (k : Nat) : Int := if k + 1 < zs.length then zs.getD (k + 1) 0 else n
def wallV (r : Rng) : Int := r.outer - r.inner
def wsum : List Rng → Int
  | [] => 0
  | r :: rs => wallV r + wsum rs
theorem wsum_append (xs ys : List Rng) : wsum (xs ++ ys) = wsum xs + wsum ys := by
  induction xs with
  | nil => simp [wsum]
  | cons x xs ih => simp [wsum, ih]; omega
theorem wsum_next {xs : List Rng} {k : Nat} (h : k < xs.length) : wsum (xs.take (k + 1)) = wsum (xs.take k) + wallV (rg xs k) := by
  rw [List.take_succ_eq_append_getElem h, wsum_append, rg_at h]; simp [wsum]
/-- The sum of walls from one ring to another. -/
def zsum (xs : List Rng) (a b : Nat) : Int := wsum (xs.take b) - wsum (xs.take a)
theorem zsum_self (xs : List Rng) (a : Nat) : zsum xs a a = 0 := by unfold zsum; omega
theorem zsum_next {xs : List Rng} {a b : Nat} (h : b < xs.length) : zsum xs a (b + 1) = zsum xs a b + wallV (rg xs b) := by
  unfold zsum; rw [wsum_next h]; omega
theorem zsum_bd {xs : List Rng} {a : Nat} (h : ∀ i, i < xs.length → ringOk (rg xs i)) : ∀ d, a + d ≤ xs.length → 0 ≤ zsum xs a (a + d) ∧ zsum xs a (a + d) ≤ 150000 * (d : Int) := by
  intro d
  induction d with
  | zero => intro _; rw [Nat.add_zero, zsum_self]; omega
  | succ d ih =>
    intro hd
    have h1 := ih (by omega)
    obtain ⟨h2, h3, _⟩ := h (a + d) (by omega)
    rw [← Nat.add_assoc, zsum_next (by omega)]
    unfold wallV
    omega
def wallAt (xs : List Rng) (zs : List Int) (k : Nat) : Int := near (zsum xs (zs.getD k 0).toNat (zEnd xs.length zs k).toNat) (zEnd xs.length zs k - zs.getD k 0)
def walls (xs : List Rng) (zs : List Int) : List Int := (List.range zs.length).map (wallAt xs zs)
theorem walls_len (xs : List Rng) (zs : List Int) : (walls xs zs).length = zs.length := by simp [walls]
theorem walls_take (xs : List Rng) (zs : List Int) {k : Nat} (h : k < zs.length) : (walls xs zs).take (k + 1) = (walls xs zs).take k ++ [wallAt xs zs k] := by
  rw [List.take_succ_eq_append_getElem (by rw [walls_len]; exact h)]
  simp [walls]
theorem zone_bd {n : Int} {zs : List Int} (h : zonesOk n zs) {k : Nat} (hk : k < zs.length) : 0 ≤ zs.getD k 0 ∧ zs.getD k 0 < zEnd n zs k ∧ zEnd n zs k ≤ n := by
  obtain ⟨_, _, hr⟩ := h
  have h1 := hr k hk
  unfold zEnd
  by_cases g : k + 1 < zs.length
  · rw [if_pos g]
    have h2 := hr (k + 1) g
    have h3 := h2.2.2
    rw [Nat.add_sub_cancel] at h3
    exact ⟨h1.1, by rcases h3 with e | e; omega; exact e, by have := h2.2.1; omega⟩
  · rw [if_neg g]
    exact ⟨h1.1, by have := h1.2.1; omega, Int.le_refl _⟩

set_option maxHeartbeats 1000000 in
theorem wall_any (r : Rng) (w : World) (h : ringOk r) :
    Calls Tryz.prog 135 #[.agg #[.int .i64 r.outer, .int .i64 r.inner, .int .i64 r.height]] w fun e w' => e = .returned (.int .i64 (wallV r)) ∧ Below w.heap.size w w' := by
  obtain ⟨h1, h2, _⟩ := h
  have w1' : IntKind.i64.wrap (r.outer - r.inner) = r.outer - r.inner := IntWalk.i64_in _ (by omega)
  clear h1 h2
  go_enter Tryz.func135, Tryz.ntmps135
  go_wp2
  go_ret
  exact ⟨rfl, belowA _ _⟩
set_option maxHeartbeats 1000000 in
theorem zoneEnd_any (n : Int) (v : Value) (x : PrfD) (vz : Value) (zs : List Int) (k : Nat) (w : World) (h : RdPrf w v x) (h1 : Ints w vz zs) (hk : k < zs.length) (hn : n = zEnd x.rings.length zs k) :
    Calls Tryz.prog 105 #[v, vz, .int .i64 (k : Int)] w fun e w' => e = .returned (.int .i64 n) ∧ Below w.heap.size w w' := by
  obtain ⟨lv, rfl, hrr⟩ := h
  obtain ⟨a, c, rfl, _⟩ := id hrr
  obtain ⟨az, cz, rfl, hz1, hz2, _⟩ := id h1
  have hm : zs.length ≤ maxLen := by omega
  unfold maxLen at hm
  have HN := Lib.hid hn
  clear hn hrr hz1 hz2
  have w1' : IntKind.i64.wrap ((k : Int) + 1) = (k : Int) + 1 := IntWalk.i64_in _ (by omega)
  by_cases g : k + 1 < zs.length
  · obtain ⟨b1, o1, rfl, c1⟩ := h1.cells (by simp; omega)
    have d1 := c1 (k + 1) (.int .i64 (zs.getD (k + 1) 0)) (by simp [g])
    obtain ⟨y, hy⟩ : ∃ y, y = zs.getD (k + 1) 0 := ⟨_, rfl⟩
    have HX := Lib.hid (show n = y by rw [HN.out, hy]; exact if_pos g)
    rw [← hy] at d1
    have lb := World.block_lt_of_cell? _ _ d1
    simp only at lb
    have d2 := cellB (belowA w (.cells #[.string x.name, .slice a x.rings.length c] 42)) d1
    have g' : (k : Int) + 1 < (zs.length : Int) := by omega
    have g'' : decide ((k : Int) + 1 < (zs.length : Int)) = true := decide_eq_true g'
    have tn : ((k : Int) + 1).toNat = k + 1 := by omega
    have g0 : (0 : Int) ≤ (k : Int) + 1 := by omega
    clear hy c1
    go_enter Tryz.func105, Tryz.ntmps105
    go_wp2
    go_ret
    exact ⟨by rw [HX.out]; rfl, belowA _ _⟩
  · have HX := Lib.hid (show n = (x.rings.length : Int) by rw [HN.out]; exact if_neg g)
    have g' : ¬ (k : Int) + 1 < (zs.length : Int) := by omega
    have g'' : decide ((k : Int) + 1 < (zs.length : Int)) = false := decide_eq_false g'
    go_enter Tryz.func105, Tryz.ntmps105
    go_wp2_with fail
    refine (sizeR_any a x.rings.length c _).mono ?_
    rintro e w2 ⟨rfl, rfl⟩
    go_wp2
    go_ret
    exact ⟨by rw [HX.out]; rfl, belowA _ _⟩
end Go.Proofs.YtenedpboehkmjaaGreat
/- Profiles after steps, the room of zones: the plain law. -/
set_option linter.unusedSimpArgs false
set_option linter.unnecessarySimpa false
set_option linter.unusedVariables false
set_option maxRecDepth 100000
namespace Go.Proofs.YtenedpboehkmjaaGreat
open Go.RowKit

/-- The zone of a ring, among the first k zones. -/
def zoneTo (zs : List Int) (i : Int) : Nat → Nat
  | 0 => 0
  | k + 1 => if zs.getD k 0 ≤ i then k else zoneTo zs i k
def zoneOfV (zs : List Int) (i : Int) : Nat := zoneTo zs i zs.length
theorem zoneTo_yes {zs : List Int} {i : Int} {k : Nat} (h : zs.getD k 0 ≤ i) : zoneTo zs i (k + 1) = k := if_pos h
theorem zoneTo_no {zs : List Int} {i : Int} {k : Nat} (h : ¬ zs.getD k 0 ≤ i) : zoneTo zs i (k + 1) = zoneTo zs i k := if_neg h
theorem zoneTo_le (zs : List Int) (i : Int) : ∀ k, zoneTo zs i k ≤ k - 1
  | 0 => Nat.le_refl _
  | k + 1 => by
    have := zoneTo_le zs i k
    by_cases h : zs.getD k 0 ≤ i
    · rw [zoneTo_yes h]; omega
    · rw [zoneTo_no h]; omega
theorem zoneOf_lt {zs : List Int} (h : 1 ≤ zs.length) (i : Int) : zoneOfV zs i < zs.length := by
  have := zoneTo_le zs i zs.length
  unfold zoneOfV; omega
theorem zone_up {n : Int} {zs : List Int} (zo : zonesOk n zs) (z : Nat) : ∀ d, z + d < zs.length → zs.getD z 0 ≤ zs.getD (z + d) 0
  | 0, _ => Int.le_refl _
  | d + 1, h => by
    have h1 := zone_up zo z d (by omega)
    have h2 := (zo.2.2 (z + (d + 1)) h).2.2
    rw [show z + (d + 1) - 1 = z + d by omega] at h2
    rcases h2 with e | e
    · omega
    · omega
theorem zoneTo_in {n : Int} {zs : List Int} (zo : zonesOk n zs) {z : Nat} {i : Int} (hz : z < zs.length) (h1 : zs.getD z 0 ≤ i) (h2 : i < zEnd n zs z) : ∀ d, z + 1 + d ≤ zs.length → zoneTo zs i (z + 1 + d) = z
  | 0, _ => zoneTo_yes h1
  | d + 1, h => by
    rw [show z + 1 + (d + 1) = (z + 1 + d) + 1 by omega, zoneTo_no, zoneTo_in zo hz h1 h2 d (by omega)]
    have h3 := zone_up zo (z + 1) d (by omega)
    unfold zEnd at h2
    rw [if_pos (by omega)] at h2
    omega
theorem zoneOf_in {n : Int} {zs : List Int} (zo : zonesOk n zs) {z : Nat} {i : Int} (hz : z < zs.length) (h1 : zs.getD z 0 ≤ i) (h2 : i < zEnd n zs z) : zoneOfV zs i = z := by
  have := zoneTo_in zo hz h1 h2 (zs.length - (z + 1)) (by omega)
  rw [show z + 1 + (zs.length - (z + 1)) = zs.length by omega] at this
  exact this

/-- A ring after steps, all rings, the first k of them. -/
def turnAt (zs : List Int) (f : Nat → Int) (xs : List Rng) (i : Nat) : Rng := ⟨(rg xs i).outer, (rg xs i).inner + 10 * f (zoneOfV zs (i : Int)), (rg xs i).height⟩
def turnV (zs : List Int) (f : Nat → Int) (xs : List Rng) : List Rng := (List.range xs.length).map (turnAt zs f xs)
def turnP (x : PrfD) (zs : List Int) (f : Nat → Int) : PrfD := ⟨x.name, turnV zs f x.rings⟩
section
variable {zs : List Int} {f : Nat → Int} {xs : List Rng} {k : Nat}
theorem turnV_len : (turnV zs f xs).length = xs.length := by simp [turnV]
theorem rg_turn (h : k < xs.length) : rg (turnV zs f xs) k = turnAt zs f xs k := by
  rw [rg_at (by rw [turnV_len]; exact h)]; simp [turnV]
theorem hgt_turn_take : ∀ k, k ≤ xs.length → hgt ((turnV zs f xs).take k) = hgt (xs.take k) := by
  intro k
  induction k with
  | zero => intro _; simp [hgt]
  | succ k ih => intro h; rw [hgt_next (by rw [turnV_len]; omega), hgt_next (by omega), ih (by omega), rg_turn (by omega)]; rfl
theorem hgt_turn : hgt (turnV zs f xs) = hgt xs := by
  have := hgt_turn_take (zs := zs) (f := f) (xs := xs) xs.length (Nat.le_refl _)
  rw [List.take_length, List.take_of_length_le (by rw [turnV_len]; exact Nat.le_refl _)] at this
  exact this
def partT (zs : List Int) (f : Nat → Int) (xs : List Rng) (k : Nat) : List Rng := (turnV zs f xs).take k ++ xs.drop k
theorem partT_zero : partT zs f xs 0 = xs := by simp [partT]
theorem partT_all : partT zs f xs xs.length = turnV zs f xs := by
  unfold partT
  rw [List.take_of_length_le (by rw [turnV_len]; exact Nat.le_refl _)]; simp
theorem partT_len (h : k ≤ xs.length) : (partT zs f xs k).length = xs.length := by
  unfold partT; rw [List.length_append, List.length_take, List.length_drop, turnV_len]; omega
theorem partT_open (h : k < xs.length) : partT zs f xs k = (turnV zs f xs).take k ++ rg xs k :: xs.drop (k + 1) := by
  unfold partT; rw [List.drop_eq_getElem_cons h, rg_at h]
theorem partT_next (h : k < xs.length) : partT zs f xs (k + 1) = (turnV zs f xs).take k ++ turnAt zs f xs k :: xs.drop (k + 1) := by
  unfold partT
  rw [List.take_succ_eq_append_getElem (by rw [turnV_len]; exact h), List.append_assoc]
  congr 1
  simp [turnV]
end
theorem turn_same {zs : List Int} {f g : Nat → Int} (hz : 1 ≤ zs.length) (h : ∀ z, z < zs.length → f z = g z) (xs : List Rng) : turnV zs f xs = turnV zs g xs := by
  unfold turnV
  refine List.map_congr_left fun i _ => ?_
  unfold turnAt
  rw [h _ (zoneOf_lt hz _)]
theorem turnP_same {zs : List Int} {f g : Nat → Int} (hz : 1 ≤ zs.length) (h : ∀ z, z < zs.length → f z = g z) (x : PrfD) : turnP x zs f = turnP x zs g := by
  unfold turnP; rw [turn_same hz h]
theorem turn_zero {zs : List Int} {f : Nat → Int} (hz : 1 ≤ zs.length) (h : ∀ z, z < zs.length → f z = 0) (xs : List Rng) : turnV zs f xs = xs := by
  apply List.ext_getElem (by rw [turnV_len])
  intro i h1 h2
  have := rg_turn (zs := zs) (f := f) h2
  rw [rg_at h1] at this
  rw [this]
  unfold turnAt
  rw [h _ (zoneOf_lt hz _), rg_at h2]
  simp
theorem turnP_zero {zs : List Int} {f : Nat → Int} (hz : 1 ≤ zs.length) (h : ∀ z, z < zs.length → f z = 0) (x : PrfD) : turnP x zs f = x := by
  unfold turnP; rw [turn_zero hz h]

/-- Steps in one zone alone; how many it allows. -/
def oneZ (z : Nat) (n : Int) : Nat → Int := fun y => if y = z then n else 0
theorem oneZ_at (z : Nat) (n : Int) : oneZ z n z = n := if_pos rfl
def mostFrom (x : PrfD) (zs : List Int) (z : Nat) : Nat → Nat → Nat
  | 0, n => n
  | d + 1, n => if prfOk (turnP x zs (oneZ z ((n : Int) + 1))) then mostFrom x zs z d (n + 1) else n
def mostV (x : PrfD) (zs : List Int) (z : Nat) : Nat := mostFrom x zs z 20 0
section
variable {x : PrfD} {zs : List Int} {z : Nat} {d n : Nat}
theorem most_yes (h : prfOk (turnP x zs (oneZ z ((n : Int) + 1)))) : mostFrom x zs z (d + 1) n = mostFrom x zs z d (n + 1) := if_pos h
theorem most_no (h : ¬ prfOk (turnP x zs (oneZ z ((n : Int) + 1)))) : mostFrom x zs z (d + 1) n = n := if_neg h
theorem most_end : mostFrom x zs z 0 n = n := rfl
theorem most_bd : ∀ d n, n ≤ mostFrom x zs z d n ∧ mostFrom x zs z d n ≤ n + d
  | 0, n => ⟨Nat.le_refl _, Nat.le_refl _⟩
  | d + 1, n => by
    by_cases h : prfOk (turnP x zs (oneZ z ((n : Int) + 1)))
    · have := most_bd d (n + 1)
      rw [most_yes h]; omega
    · rw [most_no h]; omega
theorem most_ok : ∀ d n k, n < k → k ≤ mostFrom x zs z d n → prfOk (turnP x zs (oneZ z (k : Int)))
  | 0, n, k, h1, h2 => by rw [most_end] at h2; omega
  | d + 1, n, k, h1, h2 => by
    by_cases h : prfOk (turnP x zs (oneZ z ((n : Int) + 1)))
    · rw [most_yes h] at h2
      by_cases e : k = n + 1
      · rw [e]; simpa using h
      · exact most_ok d (n + 1) k (by omega) h2
    · rw [most_no h] at h2; omega
end
theorem mostV_le (x : PrfD) (zs : List Int) (z : Nat) : mostV x zs z ≤ 20 := by have := most_bd (x := x) (zs := zs) (z := z) 20 0; unfold mostV; omega
theorem mostV_ok {x : PrfD} {zs : List Int} {z k : Nat} (ok : prfOk x) (hz : 1 ≤ zs.length) (h : k ≤ mostV x zs z) : prfOk (turnP x zs (oneZ z (k : Int))) := by
  rcases k with _ | k
  · rw [turnP_zero hz]
    · exact ok
    · intro y _; unfold oneZ; split <;> rfl
  · exact most_ok 20 0 (k + 1) (by omega) h

/-- The steps f stay in the room of all zones. -/
def inRoom (x : PrfD) (zs : List Int) (f : Nat → Int) : Prop := ∀ z, z < zs.length → 0 ≤ f z ∧ f z ≤ (mostV x zs z : Int)
theorem turn_ok {x : PrfD} {zs : List Int} {f : Nat → Int} (ok : prfOk x) (hz : 1 ≤ zs.length) (h : inRoom x zs f) : prfOk (turnP x zs f) := by
  have key : ∀ i, prfOk (turnP x zs (oneZ (zoneOfV zs (i : Nat)) (f (zoneOfV zs i)))) := fun i => by
    obtain ⟨h1, h2⟩ := h _ (zoneOf_lt hz (i : Int))
    obtain ⟨k, hk⟩ : ∃ k : Nat, f (zoneOfV zs (i : Int)) = k := Int.eq_ofNat_of_zero_le h1
    rw [hk] at h2 ⊢
    exact mostV_ok ok hz (by omega)
  have same : ∀ i, turnAt zs (oneZ (zoneOfV zs (i : Nat)) (f (zoneOfV zs i))) x.rings i = turnAt zs f x.rings i := fun i => by
    unfold turnAt; rw [oneZ_at]
  have hL : (turnP x zs f).rings.length = x.rings.length := turnV_len
  refine ⟨ok.1, by rw [hL]; exact ok.2.1, fun k hk => ?_, by show hgt (turnV zs f x.rings) ≤ _; rw [hgt_turn]; exact ok.2.2.2⟩
  rw [hL] at hk
  have hk1 := (key k).2.2.1 k (by rw [show (turnP x zs (oneZ (zoneOfV zs (k : Nat)) (f (zoneOfV zs k)))).rings.length = x.rings.length from turnV_len]; exact hk)
  unfold ringAt at hk1 ⊢
  simp only [turnP] at hk1 ⊢
  rw [rg_turn hk, same] at hk1
  rw [rg_turn hk]
  refine ⟨hk1.1, ?_⟩
  by_cases e : k = 0
  · exact .inl e
  · refine .inr ?_
    have j1 := hk1.2.resolve_left e
    have hk2 := (key (k - 1)).2.2.1 k (by rw [show (turnP x zs (oneZ (zoneOfV zs ((k - 1 : Nat) : Nat)) (f (zoneOfV zs ((k - 1 : Nat) : Int))))).rings.length = x.rings.length from turnV_len]; exact hk)
    unfold ringAt at hk2
    simp only [turnP] at hk2
    have j2 := hk2.2.resolve_left e
    rw [rg_turn (by omega)] at j1
    rw [rg_turn (by omega), rg_turn hk, same] at j2
    rw [rg_turn (by omega)]
    exact ⟨j2.1, j1.2⟩
theorem turn_same_lip {zs : List Int} {f : Nat → Int} {x : PrfD} (h : 0 < x.rings.length) : (rg (turnP x zs f).rings 0).outer = (rg x.rings 0).outer := by
  show (rg (turnV zs f x.rings) 0).outer = _
  rw [rg_turn h]; rfl
end Go.Proofs.YtenedpboehkmjaaGreat
/- Contract of slices.Clone at rings; copyProfile. -/
set_option linter.unusedSimpArgs false
set_option linter.unnecessarySimpa false
set_option linter.unusedVariables false
set_option maxRecDepth 100000
namespace Go.Proofs.YtenedpboehkmjaaGreat
open Go.RowKit

theorem Rng.one (xs : List Rng) : ∀ u ∈ xs.flatMap Rng.cells, u.oneCell' = true := by
  intro u hu
  obtain ⟨l, _, h⟩ := List.mem_flatMap.1 hu
  simp only [Rng.cells, List.mem_cons, List.not_mem_nil, or_false] at h
  rcases h with rfl | rfl | rfl <;> rfl
set_option maxHeartbeats 400000 in
theorem cloneRng_any (v : Value) (xs : List Rng) (w : World) (h : Rngs w v xs) (hs : xs.length ≤ 1048576) :
    Calls Tryz.prog 127 #[v] w fun e w' => ∃ v', e = .returned v' ∧ OwnRow w.heap.size w'.heap.size w' 96 3 v' xs.length (xs.flatMap Rng.cells) ∧ Below w.heap.size w w' := by
  obtain ⟨a, ca, rfl, hca, hcm, _⟩ := id h
  have en := fun w => Lib.run_eql_slice_nil (P := Tryz.prog) w 40 96 a xs.length ca 0 0 Tryz.underlying40
  rcases a with _ | ad
  · have hx : xs = [] := by
      rcases xs with _ | ⟨x, r⟩
      · rfl
      · obtain ⟨_, _, e, _⟩ := h.at (k := 0) (by simp); cases e
    subst hx
    simp only [List.length_nil] at en
    go_enter Tryz.func127, Tryz.ntmps127
    go_wp2
    go_ret
    exact ⟨_, rfl, ⟨owns_nil _ _ _ _, fun k hk => by simp [Value.ownBlock] at hk⟩, Below.refl _ _⟩
  · go_enter Tryz.func127, Tryz.ntmps127
    go_wp2_with (at_builtin; refine append_all rfl _ _ 40 rfl w.heap.size 96 _ 3 24 Tryz.underlying40 info_Ring rfl (by decide) (.slice (some ⟨w.heap.size, 0, none⟩) 0 0) 0 [] rfl (owns_empty w 96 3 _ (Nat.le_refl _)) (.slice (some ad) xs.length ca) xs.length (xs.flatMap Rng.cells) rfl (h.mono (by (repeat (first | with_reducible exact Below.refl _ _ | with_reducible exact hbw | (with_reducible refine Below.setCell ?_ ?_ _; rotate_left; · first | exact Nat.le_refl _ | omega | (simp; done) | (simp; omega)) | (with_reducible refine Below.alloc ?_ ?_ _; rotate_left; · first | exact Nat.le_refl _ | omega | (simp; done) | (simp; omega)) | with_reducible refine below_drewN ?_ _ | with_reducible refine Below.drew ?_)))) (Rng.len_cells xs) (Rng.one xs) (by omega) (by decide) (by simp) ?_)
    intro a' c' w1 ho hg hb
    go_wp2
    go_ret
    exact ⟨_, rfl, OwnRow.mk' (by simpa using ho), Below.trans (by (repeat (first | with_reducible exact Below.refl _ _ | with_reducible exact hbw | (with_reducible refine Below.setCell ?_ ?_ _; rotate_left; · first | exact Nat.le_refl _ | omega | (simp; done) | (simp; omega)) | (with_reducible refine Below.alloc ?_ ?_ _; rotate_left; · first | exact Nat.le_refl _ | omega | (simp; done) | (simp; omega)) | with_reducible refine below_drewN ?_ _ | with_reducible refine Below.drew ?_))) hb⟩

theorem owns_drewS {w : World} {base : Nat} {e : TypeId} {size n : Nat} {v : Value} {cs : List Value} (h : w.ownsRow base e size v n cs) : w.drew.ownsRow base e size v n cs := h
theorem grown_rowS {w w' : World} {row : Option Nat} (h : Below w.heap.size w.drew w') : w.drew.grownBy w' row := ⟨h.os, h.tape, h.output, h.size, fun k hk _ => h.block k hk⟩
theorem grown_two {a b : World} {row : Option Nat} (h : a.grownBy b row) : a.drew.grownBy b.drew row := ⟨h.os, h.tape, h.output, h.size, h.block⟩
theorem below_2drewS {b : Nat} {w w' : World} {o : Obj} (hb : Below b (w.alloc o).drew w') (h : w.heap.size = b) : Below w.heap.size w.drew w' := ⟨hb.os, hb.tape, hb.output, by have := hb.size; simp at this ⊢; exact Nat.le_trans (Nat.le_succ _) this, fun k hk => (hb.block k (by omega)).trans ((belowA w o).block k hk)⟩
/-- A block of its own, as a box; a box that reads as rings. -/
theorem Box.of_owns {w : World} {base g n cap : Nat} {e : TypeId} {size : Nat} {cs : List Value} (h : w.ownsRow base e size (.slice (some ⟨g, 0, none⟩) n cap) n cs) : Box w g cs :=
  ⟨(h.lt g rfl).2, fun j u hu => by
    have hj : j < cs.length := by
      rcases Nat.lt_or_ge j cs.length with h | h
      · exact h
      · rw [List.getElem?_eq_none h] at hu; cases hu
    rw [h.cellAt j (by have := h.1; omega)]; exact hu, fun j => h.frozenAt j⟩
theorem Rngs.of_box {w : World} {g cap : Nat} {xs : List Rng} (h : Box w g (xs.flatMap Rng.cells)) (hc : xs.length ≤ cap) (hm : cap ≤ maxLen) : Rngs w (.slice (some ⟨g, 0, none⟩) xs.length cap) xs :=
  ⟨_, _, rfl, hc, hm, fun j u hu => ⟨g, 0, rfl, by rw [Nat.zero_add]; exact h.at' j u hu⟩⟩
theorem flat_part {A R : List Rng} {r s : Rng} {k : Nat} (hA : A.length = k) (h0 : r.outer = s.outer) (h2 : r.height = s.height) : ((A ++ r :: R).flatMap Rng.cells).set (k * 3 + 1) (.int .i64 s.inner) = (A ++ s :: R).flatMap Rng.cells := by
  have hl : (A.flatMap Rng.cells).length = k * 3 := by rw [Rng.len_cells, hA]
  simp only [List.flatMap_append, List.flatMap_cons]
  rw [List.set_append_right _ _ (by omega), hl, show k * 3 + 1 - k * 3 = 1 by omega]
  simp only [Rng.cells, List.cons_append, List.set_cons_succ, List.set_cons_zero, h0, h2]
theorem flat_getR {A R : List Rng} {r : Rng} {k : Nat} (hA : A.length = k) : ((A ++ r :: R).flatMap Rng.cells)[k * 3 + 1]? = some (.int .i64 r.inner) := by
  have hl : (A.flatMap Rng.cells).length = k * 3 := by rw [Rng.len_cells, hA]
  simp only [List.flatMap_append, List.flatMap_cons]
  rw [List.getElem?_append_right (by omega), hl, show k * 3 + 1 - k * 3 = 1 by omega]
  rfl
theorem part_box {zs : List Int} {f : Nat → Int} {xs : List Rng} {k : Nat} {w : World} {g : Nat} (h : Box w g ((partT zs f xs k).flatMap Rng.cells)) (hk : k < xs.length) :
    w.cell? ⟨g, k * 3 + 1, none⟩ = some (.int .i64 (rg xs k).inner) ∧ Box (w.setCell ⟨g, k * 3 + 1, none⟩ (.int .i64 (turnAt zs f xs k).inner)) g ((partT zs f xs (k + 1)).flatMap Rng.cells) := by
  have hl : ((turnV zs f xs).take k).length = k := by rw [List.length_take, turnV_len]; omega
  rw [partT_open hk] at h
  refine ⟨h.at' _ _ (flat_getR hl), ?_⟩
  have := h.set (.int .i64 (turnAt zs f xs k).inner) (j := k * 3 + 1) (by
    have := flat_getR (R := xs.drop (k + 1)) (r := rg xs k) hl
    rcases Nat.lt_or_ge (k * 3 + 1) (((turnV zs f xs).take k ++ rg xs k :: xs.drop (k + 1)).flatMap Rng.cells).length with h | h
    · exact h
    · rw [List.getElem?_eq_none h] at this; cases this)
  rw [flat_part (r := rg xs k) (s := turnAt zs f xs k) hl rfl rfl] at this
  rw [partT_next hk]
  exact this

set_option maxHeartbeats 1000000 in
theorem copyProfile_any (v : Value) (x : PrfD) (w : World) (h : RdPrf w v x) (hs : x.rings.length ≤ 1048576) :
    Calls Tryz.prog 104 #[v] w fun e w' => ∃ a c, e = .returned (.agg #[.string x.name, .slice a x.rings.length c]) ∧ OwnRow w.heap.size w'.heap.size w' 96 3 (.slice a x.rings.length c) x.rings.length (x.rings.flatMap Rng.cells) ∧ Below w.heap.size w w' := by
  obtain ⟨lv, rfl, hlv⟩ := h
  obtain ⟨a, ca, rfl, _⟩ := id hlv
  go_enter Tryz.func104, Tryz.ntmps104
  go_wp2_with fail
  refine wp_region_ordG [(0, 1), (1, 1), (2, 1), (3, 2), (4, 0), (5, 1), (6, 0)] [4, 6] (some (w.heap.size + 1)) (by kernel_rfl) (by kernel_rfl) ?_
  (repeat ((first | with_reducible refine wpOrdG_soft (fun K hK => ?_) | with_reducible refine wpOrdG_pre (fun K hK => ?_)); simp only [List.getElem?_toArray, List.getElem?_cons_zero, List.getElem?_cons_succ]; first | (go_simp; refine hK _ ?_) | (simp only [undef]; go_simp; refine hK _ ?_); clear hK K))
  (with_reducible refine wpOrdG_hard ?_; simp only [List.getElem?_toArray, List.getElem?_cons_zero, List.getElem?_cons_succ])
  go_wp2_with fail
  refine (cloneRng_any _ x.rings _ (hlv.mono (by (repeat (first | with_reducible exact Below.refl _ _ | with_reducible exact hbw | (with_reducible refine Below.setCell ?_ ?_ _; rotate_left; · first | exact Nat.le_refl _ | omega | (simp; done) | (simp; omega)) | (with_reducible refine Below.alloc ?_ ?_ _; rotate_left; · first | exact Nat.le_refl _ | omega | (simp; done) | (simp; omega)) | with_reducible refine below_drewN ?_ _ | with_reducible refine Below.drew ?_)))) hs).mono ?_
  rintro e w1 ⟨lv', rfl, ho, hb⟩
  obtain ⟨a', cap', rfl⟩ := ho.form
  have hz : w.heap.size + 1 + 1 ≤ w1.heap.size := by have := hb.size; simp at this; omega
  have hz0 : w.heap.size < w1.heap.size := by omega
  have hz1 : w.heap.size + 1 < w1.heap.size := by omega
  have r0 : w1.cell? ⟨w.heap.size + 1, 0, none⟩ = some (.string ⟨#[]⟩) := cellL hb (by simp) (by simp [go_sem])
  have r1 : w1.cell? ⟨w.heap.size + 1, 1, none⟩ = some (.slice none 0 0) := cellL hb (by simp) (by simp [go_sem])
  have f0 : w1.frozen? ⟨w.heap.size + 1, 0, none⟩ = false := frozenL hb (by simp) (by simp [go_sem])
  have f1 : w1.frozen? ⟨w.heap.size + 1, 1, none⟩ = false := frozenL hb (by simp) (by simp [go_sem])
  have HB := Lib.hid (show Below w.heap.size w w1 from Below.trans (by (repeat (first | with_reducible exact Below.refl _ _ | with_reducible exact hbw | (with_reducible refine Below.setCell ?_ ?_ _; rotate_left; · first | exact Nat.le_refl _ | omega | (simp; done) | (simp; omega)) | (with_reducible refine Below.alloc ?_ ?_ _; rotate_left; · first | exact Nat.le_refl _ | omega | (simp; done) | (simp; omega)) | with_reducible refine below_drewN ?_ _ | with_reducible refine Below.drew ?_))) ((undrew hb).mono (by simp <;> omega)))
  have HO := Lib.hid ho
  have HG := Lib.hid (show (((w.alloc (.cells #[.string x.name, .slice a x.rings.length ca] 42)).alloc (.cells #[.string ⟨#[]⟩, .slice none 0 0] 42)).drew).grownBy w1 (some (w.heap.size + 1)) from grown_stepS hb)
  clear ho hb
  go_wp2_with fail
  refine And.intro HG.out ?_
  (repeat ((first | with_reducible refine wpOrdG_soft (fun K hK => ?_) | with_reducible refine wpOrdG_pre (fun K hK => ?_)); simp only [List.getElem?_toArray, List.getElem?_cons_zero, List.getElem?_cons_succ]; first | (go_simp; refine hK _ ?_) | (simp only [undef]; go_simp; refine hK _ ?_); clear hK K))
  (with_reducible refine wpOrdG_hard ?_; simp only [List.getElem?_toArray, List.getElem?_cons_zero, List.getElem?_cons_succ])
  go_wp2_with fail
  refine And.intro (grown_cellS (grown_cellS HG.out _ _) _ _) ?_
  (with_reducible refine wpOrdG_nil ?_); refine NoPanic.normal ?_
  go_wp2
  refine bodyPost_ret (v := .agg #[.string x.name, .slice a' x.rings.length cap']) (by simp [results, Tryz.results104, go_sem, hz0, hz1, r0, r1, f0, f1]) rfl ⟨_, _, rfl, ?_, ?_⟩
  · exact ((HO.out.setCell (by simp) _).setCell (by simp) _).wide (by simp <;> omega) (by simp)
  · have hbw := HB.out
    (repeat (first | with_reducible exact Below.refl _ _ | with_reducible exact hbw | (with_reducible refine Below.setCell ?_ ?_ _; rotate_left; · first | exact Nat.le_refl _ | omega | (simp; done) | (simp; omega)) | (with_reducible refine Below.alloc ?_ ?_ _; rotate_left; · first | exact Nat.le_refl _ | omega | (simp; done) | (simp; omega)) | with_reducible refine below_drewN ?_ _ | with_reducible refine Below.drew ?_))
set_option maxHeartbeats 1000000 in
theorem l05Own_any (q o : Nat) (x : PrfD) (w : World) {a : Option Addr} {c : Nat} (h : PrfIn w q o x a c) (hs : x.rings.length ≤ 1048576) :
    Calls Tryz.prog 85 #[.pointer (some ⟨q, o, none⟩)] w fun e w' => ∃ a c, e = .returned (.agg #[.string x.name, .slice a x.rings.length c]) ∧ OwnRow w.heap.size w'.heap.size w' 96 3 (.slice a x.rings.length c) x.rings.length (x.rings.flatMap Rng.cells) ∧ Below w.heap.size w w' := by
  obtain ⟨hlt, c0, c1, hlv⟩ := h
  have hlt1 : q < w.heap.size + 1 := by omega
  have hlt2 : q < w.heap.size + 1 + 1 := by omega
  have hlt3 : q < w.heap.size + 1 + 1 + 1 := by omega
  go_enter Tryz.func85, Tryz.ntmps85
  go_wp2_with fail
  have hne : ¬ q = w.heap.size := by omega
  refine wp_region_ordG [(0, 1), (1, 1), (2, 1), (3, 1), (5, 1), (6, 1), (7, 1), (8, 1), (4, 0), (9, 0), (10, 1), (11, 0)] [4, 9, 11] (some w.heap.size) (by kernel_rfl) (by kernel_rfl) ?_
  (repeat ((first | with_reducible refine wpOrdG_soft (fun K hK => ?_) | with_reducible refine wpOrdG_pre (fun K hK => ?_)); simp only [List.getElem?_toArray, List.getElem?_cons_zero, List.getElem?_cons_succ]; first | (go_simp; refine hK _ ?_) | (simp only [undef]; go_simp; refine hK _ ?_); clear hK K))
  (with_reducible refine wpOrdG_hard ?_; simp only [List.getElem?_toArray, List.getElem?_cons_zero, List.getElem?_cons_succ])
  go_wp2_with fail
  refine And.intro (grown_two (grown_stepS (belowA _ _))) ?_
  (repeat ((first | with_reducible refine wpOrdG_soft (fun K hK => ?_) | with_reducible refine wpOrdG_pre (fun K hK => ?_)); simp only [List.getElem?_toArray, List.getElem?_cons_zero, List.getElem?_cons_succ]; first | (go_simp; refine hK _ ?_) | (simp only [undef]; go_simp; refine hK _ ?_); clear hK K))
  (with_reducible refine wpOrdG_hard ?_; simp only [List.getElem?_toArray, List.getElem?_cons_zero, List.getElem?_cons_succ])
  refine append_all rfl _ _ 40 rfl (w.heap.size + 1) 96 _ 3 24 Tryz.underlying40 info_Ring rfl (by decide) (.slice (some ⟨w.heap.size + 1, 0, none⟩) 0 0) 0 [] rfl (owns_drewS (by simpa using owns_empty (w.alloc (.cells #[.string ⟨#[]⟩, .slice none 0 0] 42)) 96 3 (w.heap.size + 1) (by simp))) (.slice a x.rings.length c) x.rings.length (x.rings.flatMap Rng.cells) rfl (hlv.mono (by (repeat (first | with_reducible exact Below.refl _ _ | with_reducible exact hbw | (with_reducible refine Below.setCell ?_ ?_ _; rotate_left; · first | exact Nat.le_refl _ | omega | (simp; done) | (simp; omega)) | (with_reducible refine Below.alloc ?_ ?_ _; rotate_left; · first | exact Nat.le_refl _ | omega | (simp; done) | (simp; omega)) | with_reducible refine below_drewN ?_ _ | with_reducible refine Below.drew ?_)))) (Rng.len_cells x.rings) (Rng.one x.rings) (by omega) (by decide) (by simp) ?_
  intro a' c' w1 ho hg hb
  have hbW := below_2drewS hb (by simp)
  have hz := hbW.size
  simp at hz
  rw [Nat.zero_add, List.nil_append] at ho
  have y0 : w1.cell? ⟨w.heap.size, 0, none⟩ = some (.string ⟨#[]⟩) := cellL hb (by simp) (by simp [go_sem])
  have y1 : w1.cell? ⟨w.heap.size, 1, none⟩ = some (.slice none 0 0) := cellL hb (by simp) (by simp [go_sem])
  have f0 : w1.frozen? ⟨w.heap.size, 0, none⟩ = false := frozenL hb (by simp) (by simp [go_sem])
  have f1 : w1.frozen? ⟨w.heap.size, 1, none⟩ = false := frozenL hb (by simp) (by simp [go_sem])
  have HO := Lib.hid ho
  have HB := Lib.hid (show Below w.heap.size w w1 from ((belowA w _).trans ((undrew hbW).mono (by simp))))
  have hzz : w.heap.size < w1.heap.size := by omega
  have G1 := Lib.hid (grown_rowS (row := some w.heap.size) hbW)
  clear ho hg hb hbW
  go_wp2_with fail
  refine And.intro G1.out ?_
  (repeat ((first | with_reducible refine wpOrdG_soft (fun K hK => ?_) | with_reducible refine wpOrdG_pre (fun K hK => ?_)); simp only [List.getElem?_toArray, List.getElem?_cons_zero, List.getElem?_cons_succ]; first | (go_simp; refine hK _ ?_) | (simp only [undef]; go_simp; refine hK _ ?_); clear hK K))
  (with_reducible refine wpOrdG_hard ?_; simp only [List.getElem?_toArray, List.getElem?_cons_zero, List.getElem?_cons_succ])
  go_wp2_with fail
  refine And.intro (grown_cellS (grown_cellS G1.out _ _) _ _) ?_
  (with_reducible refine wpOrdG_nil ?_); refine NoPanic.normal ?_
  go_wp2
  refine bodyPost_ret (v := .agg #[.string x.name, .slice a' x.rings.length c']) (by simp [results, Tryz.results85, go_sem, hzz, y0, y1, f0, f1]) rfl ⟨_, _, rfl, ?_, ?_⟩
  · exact (((OwnRow.mk' HO.out).setCell (by simp) _).setCell (by simp) _).wide (by omega) (by simp)
  · have hbw := HB.out
    (repeat (first | with_reducible exact Below.refl _ _ | with_reducible exact hbw | (with_reducible refine Below.setCell ?_ ?_ _; rotate_left; · first | exact Nat.le_refl _ | omega | (simp; done) | (simp; omega)) | (with_reducible refine Below.alloc ?_ ?_ _; rotate_left; · first | exact Nat.le_refl _ | omega | (simp; done) | (simp; omega)) | with_reducible refine below_drewN ?_ _ | with_reducible refine Below.drew ?_))

set_option maxHeartbeats 1000000 in
theorem l09Zone_any (v : Value) (zs : List Int) (i : Int) (w : World) (h : Ints w v zs) :
    Calls Tryz.prog 86 #[v, .int .i64 i] w fun e w' => e = .returned (.int .i64 (zoneOfV zs i)) ∧ w' = w := by
  obtain ⟨a, c, rfl, hca, hcm, _⟩ := id h
  have hm : zs.length ≤ maxLen := by omega
  unfold maxLen at hm
  have H := Lib.hid h
  clear hca hcm h
  go_enter Tryz.func86, Tryz.ntmps86
  go_wp2_with fail
  go_loopw [5, 6] (fun ov iv wr => ∃ k : Nat, k ≤ zs.length ∧ iv = .int .i64 (k : Int) ∧ ov = .int .i64 (zoneTo zs i k : Nat) ∧ wr = w) (fun _ iv _ => zs.length - (intOf iv).toNat)
  case atStart => exact ⟨0, Nat.zero_le _, by go_num, rfl, rfl⟩
  case round =>
    obtain ⟨k, hk, rfl, rfl, rfl⟩ := hrel
    by_cases hlt : k < zs.length
    · obtain ⟨b1, o1, rfl, c1⟩ := H.out.cells (by simp; omega)
      have d1 := c1 k (.int .i64 (zs.getD k 0)) (by simp [hlt])
      by_cases g : zs.getD k 0 ≤ i
      · have HZ := Lib.hid (zoneTo_yes g)
        obtain ⟨y, hy⟩ : ∃ y, y = zs.getD k 0 := ⟨_, rfl⟩
        rw [← hy] at d1 g
        have g' : decide (y ≤ i) = true := decide_eq_true g
        clear c1 hy
        go_wp2
        go_roundw
        case rel => exact ⟨k + 1, by omega, by go_num, by rw [HZ.out], trivial⟩
        case measure => simp [intOf]; omega
      · have HZ := Lib.hid (zoneTo_no g)
        obtain ⟨y, hy⟩ : ∃ y, y = zs.getD k 0 := ⟨_, rfl⟩
        rw [← hy] at d1 g
        have g' : decide (y ≤ i) = false := decide_eq_false g
        clear c1 hy
        go_wp2
        go_roundw
        case rel => exact ⟨k + 1, by omega, by go_num, by rw [HZ.out], trivial⟩
        case measure => simp [intOf]; omega
    · obtain rfl : k = zs.length := by omega
      have HZ := Lib.hid (show zoneTo zs i zs.length = zoneOfV zs i from rfl)
      rw [HZ.out]
      go_wp2
      go_ret
      exact ⟨rfl, rfl⟩
end Go.Proofs.YtenedpboehkmjaaGreat
