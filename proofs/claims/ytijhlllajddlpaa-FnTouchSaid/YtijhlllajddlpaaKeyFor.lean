/- Contracts of KeyFor of both packages. -/
import Derived.Test.YtijhlllajddlpaaClav
set_option linter.unusedSimpArgs false
set_option linter.unnecessarySimpa false
set_option linter.unusedVariables false
set_option maxRecDepth 100000
namespace Go.Proofs.Ytijhlllajddlpaa
open Go.RowKit

def hasNote (n : Int) (x : ActD) : Prop := x.note = n
instance (n : Int) : DecidablePred (hasNote n) := fun x => by unfold hasNote; infer_instance
def keyI (xs : List ActD) (n : Int) : Int := firstIdx (hasNote n) xs
noncomputable def keyV (xs : List ActD) (n : Int) : Int := if clavB xs then (if keyI xs n < 0 then 0 else keyI xs n) else 0
noncomputable def keyC (xs : List ActD) (n : Int) : Int := if clavB xs then (if keyI xs n < 0 then 3 else 0) else 1
theorem key_hit {xs : List ActD} {n : Int} {k : Nat} (hx : clavB xs = true) (h : keyI xs n = k) : (k : Int) = keyV xs n ∧ (0 : Int) = keyC xs n := by
  unfold keyV keyC; rw [hx, if_pos rfl, if_pos rfl, h, if_neg (by omega), if_neg (by omega)]; exact ⟨rfl, rfl⟩
theorem key_miss {xs : List ActD} {n : Int} (hx : clavB xs = true) (h : keyI xs n = -1) : (0 : Int) = keyV xs n ∧ (3 : Int) = keyC xs n := by
  unfold keyV keyC; rw [hx, if_pos rfl, if_pos rfl, h]; exact ⟨rfl, rfl⟩
theorem key_inv {xs : List ActD} {n : Int} (hx : clavB xs = false) : (0 : Int) = keyV xs n ∧ (1 : Int) = keyC xs n := by
  unfold keyV keyC; rw [hx]; exact ⟨rfl, rfl⟩
theorem firstIdx_cases {α : Type} (p : α → Prop) [DecidablePred p] (xs : List α) : firstIdx p xs = -1 ∨ ∃ k : Nat, firstIdx p xs = k := by
  unfold firstIdx; split
  · exact .inr ⟨_, rfl⟩
  · exact .inl rfl
theorem ret2 {a b c d : Int} (h : a = c ∧ b = d) : Ending.returned (.tuple #[.int .i64 a, .int .i64 b]) = .returned (.tuple #[.int .i64 c, .int .i64 d]) := by rw [h.1, h.2]

theorem keyFor1_any (b : Bool) (x : ActD) (B : Nat) (n : Int) (lv : Value) (w : World) (hB : w.cell? ⟨B, 0, none⟩ = some (.int .i64 n)) (h : b = (x.note == n)) :
    Calls Try.prog 34 #[.agg #[.int .i64 x.note, lv, .int .i64 x.slack, .int .i64 x.weight], .pointer (some ⟨B, 0, none⟩)] w fun e w' => e = .returned (.bool b) ∧ Below w.heap.size w w' := by
  have hlt := World.block_lt_of_cell? _ _ hB
  simp only at hlt
  have H := Lib.hid h; clear h
  go_enter Try.func34, Try.ntmps34
  go_wp2
  go_ret
  refine ⟨ret_bool H.out.symm, ?_⟩
  (repeat (first | with_reducible exact Below.refl _ _ | with_reducible exact hbw | (with_reducible refine Below.setCell ?_ ?_ _; rotate_left; · first | exact Nat.le_refl _ | omega | (simp; done) | (simp; omega)) | (with_reducible refine Below.alloc ?_ ?_ _; rotate_left; · first | exact Nat.le_refl _ | omega | (simp; done) | (simp; omega)) | with_reducible refine below_drewN ?_ _ | with_reducible refine Below.drew ?_))

set_option maxHeartbeats 1000000 in
theorem indexAct_any (v : Value) (xs : List ActD) (B : Nat) (n : Int) (w : World) (h1 : RdActs w v xs) (hB : w.cell? ⟨B, 0, none⟩ = some (.int .i64 n)) :
    Calls Try.prog 33 #[v, .func (.func 34) #[] #[.pointer (some ⟨B, 0, none⟩)]] w fun e w' => e = .returned (.int .i64 (keyI xs n)) ∧ Below w.heap.size w w' := by
  obtain ⟨a, ca, rfl, hm⟩ := h1.form'
  unfold maxLen at hm
  go_enter Try.func33, Try.ntmps33
  go_wp2
  go_loopw [8] (fun i wr => ∃ k : Nat, k ≤ xs.length ∧ i = .int .i64 k ∧ (∀ i (hi : i < xs.length), i < k → ¬ hasNote n xs[i]) ∧ Below w.heap.size w wr) (fun i _ => xs.length - (intOf i).toNat)
  case atStart => exact ⟨0, Nat.zero_le _, rfl, by intro i _ h; omega, Below.refl _ _⟩
  case round =>
    obtain ⟨k, hk, rfl, ht', hb⟩ := hrel
    have ht := Lib.hid ht'; clear ht'
    by_cases hlt : k < xs.length
    · obtain ⟨b1, o1, lv, c1, rfl, hB1, u0, u1, u2, u3, u4⟩ := (h1.mono hb).at' hlt
      have hBr := cellB hb hB
      by_cases g : xs[k].note = n
      · have E := Lib.hid (show keyI xs n = k from firstIdx_some hlt ht.out g)
        have H2 := Lib.hid (show true = (xs[k].note == n) by simp [g])
        clear g
        go_wp2_with fail
        refine (keyFor1_any true xs[k] B n _ _ hBr H2.out).mono ?_
        rintro e w1 ⟨rfl, hb1⟩
        go_wp2
        go_ret
        exact ⟨by rw [E.out]; rfl, hb.trans (hb1.mono hb.size)⟩
      · have H2 := Lib.hid (show false = (xs[k].note == n) by simp [g])
        have G := Lib.hid g; clear g
        go_wp2_with fail
        refine (keyFor1_any false xs[k] B n _ _ hBr H2.out).mono ?_
        rintro e w1 ⟨rfl, hb1⟩
        go_wp2
        go_roundw
        case rel => exact ⟨k + 1, by omega, by go_num, not_step ht.out G.out, hb.trans (hb1.mono hb.size)⟩
        case measure => simp [intOf] <;> omega
    · have E := Lib.hid (show keyI xs n = -1 from firstIdx_none fun i hi => ht.out i hi (by omega))
      go_wp2
      go_ret
      exact ⟨by rw [E.out]; rfl, hb⟩

set_option maxHeartbeats 1000000 in
theorem implKeyFor_any (v : Value) (x : List ActD) (n : Int) (w : World) (h : RdActs w v x) (_ : okActs x) (_ : szActs x ≤ 1048576) (_ : I64 n) :
    Calls Try.prog 15 #[v, .int .i64 n] w fun e w' => e = .returned (.tuple #[.int .i64 (keyV x n), .int .i64 (keyC x n)]) ∧ Below w.heap.size w w' := by
  obtain ⟨a, ca, rfl, hm⟩ := h.form'
  unfold maxLen at hm
  by_cases g : ClavOk x
  · have GV := Lib.hid (clavB_iff.2 g); clear g
    go_enter Try.func15, Try.ntmps15
    go_wp2_with fail
    refine (implValidClav_any _ x _ (h.mono (by (repeat (first | with_reducible exact Below.refl _ _ | with_reducible exact hbw | (with_reducible refine Below.setCell ?_ ?_ _; rotate_left; · first | exact Nat.le_refl _ | omega | (simp; done) | (simp; omega)) | (with_reducible refine Below.alloc ?_ ?_ _; rotate_left; · first | exact Nat.le_refl _ | omega | (simp; done) | (simp; omega)) | with_reducible refine below_drewN ?_ _ | with_reducible refine Below.drew ?_))))).mono ?_
    rw [GV.out]
    rintro e w1 ⟨rfl, hb⟩
    have hbw : Below w.heap.size w w1 := Below.trans (by (repeat (first | with_reducible exact Below.refl _ _ | with_reducible exact hbw | (with_reducible refine Below.setCell ?_ ?_ _; rotate_left; · first | exact Nat.le_refl _ | omega | (simp; done) | (simp; omega)) | (with_reducible refine Below.alloc ?_ ?_ _; rotate_left; · first | exact Nat.le_refl _ | omega | (simp; done) | (simp; omega)) | with_reducible refine below_drewN ?_ _ | with_reducible refine Below.drew ?_))) (hb.mono (by simp <;> omega))
    have y0 : w1.cell? ⟨w.heap.size, 0, none⟩ = some (.int .i64 n) := cellB hb (by simp [go_sem])
    clear hb
    go_wp2_with fail
    refine (indexAct_any _ x w.heap.size n _ (h.mono hbw) y0).mono ?_
    rintro e w2 ⟨rfl, hb2⟩
    have hbw := hbw.trans (hb2.mono hbw.size)
    rcases firstIdx_cases (hasNote n) x with e1 | ⟨k, e1⟩
    · have E := Lib.hid (show keyI x n = -1 from e1); clear e1
      rw [E.out]
      go_wp2
      go_ret2
      exact ⟨ret2 (key_miss GV.out E.out), hbw⟩
    · have E := Lib.hid (show keyI x n = k from e1); clear e1
      rw [E.out]
      have d : decide ((k : Int) < 0) = false := by simp
      go_wp2
      go_ret2
      exact ⟨ret2 (key_hit GV.out E.out), hbw⟩
  · have GV := Lib.hid (show clavB x = false by rw [← Bool.not_eq_true, clavB_iff]; exact g); clear g
    go_enter Try.func15, Try.ntmps15
    go_wp2_with fail
    refine (implValidClav_any _ x _ (h.mono (by (repeat (first | with_reducible exact Below.refl _ _ | with_reducible exact hbw | (with_reducible refine Below.setCell ?_ ?_ _; rotate_left; · first | exact Nat.le_refl _ | omega | (simp; done) | (simp; omega)) | (with_reducible refine Below.alloc ?_ ?_ _; rotate_left; · first | exact Nat.le_refl _ | omega | (simp; done) | (simp; omega)) | with_reducible refine below_drewN ?_ _ | with_reducible refine Below.drew ?_))))).mono ?_
    rw [GV.out]
    rintro e w1 ⟨rfl, hb⟩
    have hbw : Below w.heap.size w w1 := Below.trans (by (repeat (first | with_reducible exact Below.refl _ _ | with_reducible exact hbw | (with_reducible refine Below.setCell ?_ ?_ _; rotate_left; · first | exact Nat.le_refl _ | omega | (simp; done) | (simp; omega)) | (with_reducible refine Below.alloc ?_ ?_ _; rotate_left; · first | exact Nat.le_refl _ | omega | (simp; done) | (simp; omega)) | with_reducible refine below_drewN ?_ _ | with_reducible refine Below.drew ?_))) (hb.mono (by simp <;> omega))
    go_wp2
    go_ret2
    exact ⟨ret2 (key_inv GV.out), hbw⟩

end Go.Proofs.Ytijhlllajddlpaa
