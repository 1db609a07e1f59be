/- Contracts of the laws' helpers over Bay and slices of it: copy, equality, size, marks. -/
import Derived.Test.YteaijhmgfddjiaaChecked
import Derived.Test.YteaijhmgfddjiaaRegion
import Derived.Test.YteaijhmgfddjiaaKey
import Derived.Test.YteaijhmgfddjiaaApp
import Derived.Test.YteaijhmgfddjiaaMarkT
import Derived.Test.YteaijhmgfddjiaaStrEq
import Derived.Test.YteaijhmgfddjiaaBayL
import Derived.Deep.QuietTactic
import Derived.BigQuiet
set_option linter.unusedSimpArgs false
set_option linter.unnecessarySimpa false
set_option linter.unusedVariables false
set_option maxRecDepth 100000
namespace Go.Proofs.Yteaijhmgfddjiaa
open Go.RowKit

theorem BayD.ext_iff' (x y : BayD) : x = y ↔ x.id = y.id ∧ x.radius = y.radius ∧ x.depth = y.depth := by cases x; cases y; simp [BayD.mk.injEq]
def BayD.cells (x : BayD) : List Value := [.string x.id, .int .i64 x.radius, .int .i64 x.depth]
def RdBayDs (w : World) (v : Value) (xs : List BayD) : Prop := Sl w v xs.length (xs.flatMap BayD.cells)
def BayD.ok (x : BayD) : Prop := x.id.size ≤ maxLen ∧ I64 x.radius ∧ I64 x.depth
def okBayDs (xs : List BayD) : Prop := ∀ x ∈ xs, x.ok
theorem BayD.len_cells (xs : List BayD) : (xs.flatMap BayD.cells).length = xs.length * 3 := flat_len (f := BayD.cells) (fun _ => rfl) xs
def OwnBayDs (B E : Nat) (w : World) (v : Value) (xs : List BayD) : Prop := OwnRow B E w 79 3 v xs.length (xs.flatMap BayD.cells)
section
variable {B E B' E' : Nat} {w w' : World} {v : Value} {xs : List BayD}
theorem RdBayDs.mono (h : RdBayDs w v xs) (hb : Below w.heap.size w w') : RdBayDs w' v xs := Sl.mono h hb
theorem RdBayDs.form' (h : RdBayDs w v xs) : ∃ a cap, v = .slice a xs.length cap ∧ xs.length ≤ maxLen := by
  obtain ⟨a, cap, rfl, h1, h2, _⟩ := h
  exact ⟨a, cap, rfl, by omega⟩
theorem RdBayDs.form (h : RdBayDs w v xs) : ∃ a cap, v = .slice a xs.length cap := by
  obtain ⟨a, cap, e, _⟩ := h.form'
  exact ⟨a, cap, e⟩
theorem OwnBayDs.mono (h : OwnBayDs B E w v xs) (hb : Below w.heap.size w w') : OwnBayDs B E w' v xs := OwnRow.mono h hb
theorem OwnBayDs.touch (h : OwnBayDs B E w v xs) (t : Touch B' E' w w') (hd : E ≤ B' ∨ E' ≤ B) : OwnBayDs B E w' v xs := OwnRow.touch h t hd
theorem OwnBayDs.wide (h : OwnBayDs B E w v xs) (hB : B' ≤ B) (hE : E ≤ E') : OwnBayDs B' E' w v xs := OwnRow.wide h hB hE
theorem OwnBayDs.rd (h : OwnBayDs B E w v xs) : RdBayDs w v xs := OwnRow.sl h
theorem OwnBayDs.form (h : OwnBayDs B E w v xs) : ∃ a cap, v = .slice a xs.length cap := OwnRow.form h
/-- A Bay lies in block b from cell off on. -/
structure BayDIn (w : World) (b off : Nat) (x : BayD) : Prop where
  lt : b < w.heap.size
  c0 : w.cell? ⟨b, off, none⟩ = some (.string x.id)
  c1 : w.cell? ⟨b, off + 1, none⟩ = some (.int .i64 x.radius)
  c2 : w.cell? ⟨b, off + 2, none⟩ = some (.int .i64 x.depth)
theorem RdBayDs.at {a : Option Addr} {cap k : Nat} (h : RdBayDs w (.slice a xs.length cap) xs) (hk : k < xs.length) :
    ∃ b off, a = some ⟨b, off, none⟩ ∧ BayDIn w b (off + k * 3) xs[k] := by
  obtain ⟨b, off, rfl, hc⟩ := Sl.cells h (by rw [BayD.len_cells]; omega)
  have h0 := hc (k * 3 + 0) _ (flat_at (f := BayD.cells) (m := 3) (fun _ => rfl) xs k 0 hk (by omega) (u := .string xs[k].id) rfl)
  have h1 := hc (k * 3 + 1) _ (flat_at (f := BayD.cells) (m := 3) (fun _ => rfl) xs k 1 hk (by omega) (u := .int .i64 xs[k].radius) rfl)
  have h2 := hc (k * 3 + 2) _ (flat_at (f := BayD.cells) (m := 3) (fun _ => rfl) xs k 2 hk (by omega) (u := .int .i64 xs[k].depth) rfl)
  exact ⟨b, off, rfl, ⟨World.block_lt_of_cell? w _ h0, by simpa [Nat.add_assoc] using h0, by simpa [Nat.add_assoc] using h1, by simpa [Nat.add_assoc] using h2⟩⟩
end

theorem toBayD_any (x : BayD) (w : World) :
    Calls Try.prog 52 #[.agg #[.string x.id, .int .i64 x.radius, .int .i64 x.depth]] w fun e w' => e = .returned (.agg #[.string x.id, .int .i64 x.radius, .int .i64 x.depth]) ∧ Below w.heap.size w w' := by
  go_enter Try.func52, Try.ntmps52
  go_wp2
  refine bodyPost_ret (v := .agg #[.string x.id, .int .i64 x.radius, .int .i64 x.depth]) (by simp [results, Try.results52, go_sem]) rfl ⟨rfl, ?_⟩
  (repeat (first | with_reducible exact Below.refl _ _ | with_reducible exact hbw | (with_reducible refine Below.setCell ?_ ?_ _; rotate_left; · first | exact Nat.le_refl _ | omega | (simp; done) | (simp; omega)) | (with_reducible refine Below.alloc ?_ ?_ _; rotate_left; · first | exact Nat.le_refl _ | omega | (simp; done) | (simp; omega)) | with_reducible refine below_drewN ?_ _ | with_reducible refine Below.drew ?_))

theorem eqBayD_any (x y : BayD) (w : World) :
    Calls Try.prog 54 #[.agg #[.string x.id, .int .i64 x.radius, .int .i64 x.depth], .agg #[.string y.id, .int .i64 y.radius, .int .i64 y.depth]] w fun e w' => e = .returned (.bool (decide (x = y))) ∧ Below w.heap.size w w' := by
  by_cases h0 : x.id = y.id
  · skip
    by_cases h1 : x.radius = y.radius
    · skip
      by_cases h2 : x.depth = y.depth
      · skip
        have e_id : (x.id.toList == y.id.toList) = true := by rw [strEq]; simpa using h0
        have e_radius : (x.radius != y.radius) = false := by simpa using h1
        have e_depth : (x.depth != y.depth) = false := by simpa using h2
        have hd : decide (x = y) = true := by apply decide_eq_true; rw [BayD.ext_iff']; simp [*]
        have HD := Lib.hid hd; clear hd h0 h1 h2
        go_enter Try.func54, Try.ntmps54
        go_wp2
        go_ret
        refine ⟨by rw [HD.out]; rfl, ?_⟩
        (repeat (first | with_reducible exact Below.refl _ _ | with_reducible exact hbw | (with_reducible refine Below.setCell ?_ ?_ _; rotate_left; · first | exact Nat.le_refl _ | omega | (simp; done) | (simp; omega)) | (with_reducible refine Below.alloc ?_ ?_ _; rotate_left; · first | exact Nat.le_refl _ | omega | (simp; done) | (simp; omega)) | with_reducible refine below_drewN ?_ _ | with_reducible refine Below.drew ?_))
      · skip
        have e_id : (x.id.toList == y.id.toList) = true := by rw [strEq]; simpa using h0
        have e_radius : (x.radius != y.radius) = false := by simpa using h1
        have e_depth : (x.depth != y.depth) = true := by simpa using h2
        have hd : decide (x = y) = false := by apply decide_eq_false; rw [BayD.ext_iff']; simp [*]
        have HD := Lib.hid hd; clear hd h0 h1 h2
        go_enter Try.func54, Try.ntmps54
        go_wp2
        go_ret
        refine ⟨by rw [HD.out]; rfl, ?_⟩
        (repeat (first | with_reducible exact Below.refl _ _ | with_reducible exact hbw | (with_reducible refine Below.setCell ?_ ?_ _; rotate_left; · first | exact Nat.le_refl _ | omega | (simp; done) | (simp; omega)) | (with_reducible refine Below.alloc ?_ ?_ _; rotate_left; · first | exact Nat.le_refl _ | omega | (simp; done) | (simp; omega)) | with_reducible refine below_drewN ?_ _ | with_reducible refine Below.drew ?_))
    · skip
      have e_id : (x.id.toList == y.id.toList) = true := by rw [strEq]; simpa using h0
      have e_radius : (x.radius != y.radius) = true := by simpa using h1
      have hd : decide (x = y) = false := by apply decide_eq_false; rw [BayD.ext_iff']; simp [*]
      have HD := Lib.hid hd; clear hd h0 h1
      go_enter Try.func54, Try.ntmps54
      go_wp2
      go_ret
      refine ⟨by rw [HD.out]; rfl, ?_⟩
      (repeat (first | with_reducible exact Below.refl _ _ | with_reducible exact hbw | (with_reducible refine Below.setCell ?_ ?_ _; rotate_left; · first | exact Nat.le_refl _ | omega | (simp; done) | (simp; omega)) | (with_reducible refine Below.alloc ?_ ?_ _; rotate_left; · first | exact Nat.le_refl _ | omega | (simp; done) | (simp; omega)) | with_reducible refine below_drewN ?_ _ | with_reducible refine Below.drew ?_))
  · skip
    have e_id : (x.id.toList == y.id.toList) = false := by rw [strEq]; simpa using h0
    have hd : decide (x = y) = false := by apply decide_eq_false; rw [BayD.ext_iff']; simp [*]
    have HD := Lib.hid hd; clear hd h0
    go_enter Try.func54, Try.ntmps54
    go_wp2
    go_ret
    refine ⟨by rw [HD.out]; rfl, ?_⟩
    (repeat (first | with_reducible exact Below.refl _ _ | with_reducible exact hbw | (with_reducible refine Below.setCell ?_ ?_ _; rotate_left; · first | exact Nat.le_refl _ | omega | (simp; done) | (simp; omega)) | (with_reducible refine Below.alloc ?_ ?_ _; rotate_left; · first | exact Nat.le_refl _ | omega | (simp; done) | (simp; omega)) | with_reducible refine below_drewN ?_ _ | with_reducible refine Below.drew ?_))

/-- How many bytes the first k texts have. -/
def sumBayD (xs : List BayD) : Nat → Nat
  | 0 => 0
  | k + 1 => sumBayD xs k + (xs[k]?.map fun x => x.id.size).getD 0
theorem sumBayD_step {xs : List BayD} {k : Nat} (h : k < xs.length) : sumBayD xs (k + 1) = sumBayD xs k + xs[k].id.size := by simp [sumBayD, h]
theorem sumBayD_mono (xs : List BayD) (k j : Nat) : sumBayD xs k ≤ sumBayD xs (k + j) := by
  induction j with
  | zero => exact Nat.le_refl _
  | succ j ih => exact Nat.le_trans ih (by rw [← Nat.add_assoc]; simp [sumBayD])
theorem sumBayD_le {xs : List BayD} {k : Nat} (h : k ≤ xs.length) : sumBayD xs k ≤ sumBayD xs xs.length := by
  have := sumBayD_mono xs k (xs.length - k)
  rwa [show k + (xs.length - k) = xs.length by omega] at this
def szBayDs (xs : List BayD) : Nat := xs.length + sumBayD xs xs.length
theorem szBayDs_len (xs : List BayD) : xs.length ≤ szBayDs xs := by unfold szBayDs; omega
theorem szBayD_any (o : Int) (x : BayD) (left : Int) (w : World) (h0 : 0 ≤ left) (hl : left ≤ 1048576) (hs : x.id.size ≤ maxLen) (ho : o = if left < x.id.size then -1 else left - x.id.size) :
    Calls Try.prog 47 #[.agg #[.string x.id, .int .i64 x.radius, .int .i64 x.depth], .int .i64 left] w fun e w' => e = .returned (.int .i64 o) ∧ Below w.heap.size w w' := by
  unfold maxLen at hs
  by_cases g : left < x.id.size
  · have e1 : left - (x.id.size : Int) < 0 := by omega
    rw [if_pos g] at ho
    subst ho
    go_enter Try.func47, Try.ntmps47
    go_wp2
    go_ret
    refine ⟨rfl, ?_⟩
    (repeat (first | with_reducible exact Below.refl _ _ | with_reducible exact hbw | (with_reducible refine Below.setCell ?_ ?_ _; rotate_left; · first | exact Nat.le_refl _ | omega | (simp; done) | (simp; omega)) | (with_reducible refine Below.alloc ?_ ?_ _; rotate_left; · first | exact Nat.le_refl _ | omega | (simp; done) | (simp; omega)) | with_reducible refine below_drewN ?_ _ | with_reducible refine Below.drew ?_))
  · have e1 : ¬ left - (x.id.size : Int) < 0 := by omega
    rw [if_neg g] at ho
    subst ho
    go_enter Try.func47, Try.ntmps47
    go_wp2
    go_ret
    refine ⟨rfl, ?_⟩
    (repeat (first | with_reducible exact Below.refl _ _ | with_reducible exact hbw | (with_reducible refine Below.setCell ?_ ?_ _; rotate_left; · first | exact Nat.le_refl _ | omega | (simp; done) | (simp; omega)) | (with_reducible refine Below.alloc ?_ ?_ _; rotate_left; · first | exact Nat.le_refl _ | omega | (simp; done) | (simp; omega)) | with_reducible refine below_drewN ?_ _ | with_reducible refine Below.drew ?_))

set_option maxHeartbeats 1000000 in
theorem szBayDsY (v : Value) (x : List BayD) (left : Int) (w : World) (h : RdBayDs w v x) (ok : okBayDs x) (h0 : 0 ≤ left) (hl : left ≤ 1048576) (hs : szBayDs x ≤ left) :
    Calls Try.prog 15 #[v, .int .i64 left] w fun e w' => e = .returned (.int .i64 (left - szBayDs x)) ∧ Below w.heap.size w w' := by
  obtain ⟨a, ca, rfl, hm⟩ := h.form'
  unfold maxLen at hm
  have hsl := szBayDs_len x
  have e1 : ¬ left - (x.length : Int) < 0 := by omega
  have OK := Lib.hid ok
  clear ok
  go_enter Try.func15, Try.ntmps15
  go_wp2_with fail
  go_loopw [1, 5] (fun l i wr => ∃ k : Nat, k ≤ x.length ∧ i = .int .i64 (k : Int) ∧ l = .int .i64 (left - x.length - sumBayD x k) ∧ Below w.heap.size w wr) (fun _ i _ => x.length - (intOf i).toNat)
  case atStart => exact ⟨0, Nat.zero_le _, by go_num, by simp [sumBayD], Below.refl _ _⟩
  case round =>
    obtain ⟨k, hk, rfl, rfl, hb⟩ := hrel
    by_cases hlt : k < x.length
    · obtain ⟨b1, o1, rfl, hT⟩ := (h.mono hb).at hlt
      obtain ⟨l0, c0, c1, c2⟩ := hT
      have s1 := sumBayD_step hlt
      have s2 := sumBayD_le (xs := x) (k := k + 1) (by omega)
      have s3 : szBayDs x = x.length + sumBayD x x.length := rfl
      have s4 : (sumBayD x (k + 1) : Int) ≤ left - x.length := by omega
      have S1 := Lib.hid s1
      have e2 : ¬ left - (x.length : Int) - (sumBayD x (k + 1) : Int) < 0 := by omega
      have i1 : 0 ≤ left - (x.length : Int) - (sumBayD x k : Int) := by omega
      have E3 := Lib.hid (show left - (x.length : Int) - (sumBayD x (k + 1) : Int) = if left - (x.length : Int) - (sumBayD x k : Int) < x[k].id.size then -1 else left - (x.length : Int) - (sumBayD x k : Int) - x[k].id.size by rw [if_neg (by omega)]; omega)
      clear s1 s2 s3 s4
      go_wp2_with fail
      refine (szBayD_any _ x[k] _ _ i1 (by omega) (OK.out _ (List.getElem_mem hlt)).1 E3.out).mono ?_
      rintro e w2 ⟨rfl, hb2⟩
      go_wp2
      go_roundw
      case rel => exact ⟨k + 1, by omega, by go_num, rfl, hb.trans (hb2.mono hb.size)⟩
      case measure => simp [intOf] <;> omega
    · obtain rfl : k = x.length := by omega
      go_wp2
      go_ret
      exact ⟨ret_int (by unfold szBayDs; omega), hb⟩

set_option maxHeartbeats 1000000 in
theorem szBayDsN (v : Value) (x : List BayD) (left : Int) (w : World) (h : RdBayDs w v x) (ok : okBayDs x) (h0 : 0 ≤ left) (hl : left ≤ 1048576) (hs : left < szBayDs x) :
    Calls Try.prog 15 #[v, .int .i64 left] w fun e w' => e = .returned (.int .i64 (-1)) ∧ Below w.heap.size w w' := by
  obtain ⟨a, ca, rfl, hm⟩ := h.form'
  unfold maxLen at hm
  have HS := Lib.hid hs; clear hs
  have OK := Lib.hid ok
  clear ok
  by_cases g : left < x.length
  · have e1 : left - (x.length : Int) < 0 := by omega
    go_enter Try.func15, Try.ntmps15
    go_wp2
    go_ret
    exact ⟨rfl, Below.refl _ _⟩
  · have e1 : ¬ left - (x.length : Int) < 0 := by omega
    go_enter Try.func15, Try.ntmps15
    go_wp2_with fail
    go_loopw [1, 5] (fun l i wr => ∃ k : Nat, k ≤ x.length ∧ i = .int .i64 (k : Int) ∧ l = .int .i64 (left - x.length - sumBayD x k) ∧ 0 ≤ left - x.length - sumBayD x k ∧ Below w.heap.size w wr) (fun _ i _ => x.length - (intOf i).toNat)
    case atStart => exact ⟨0, Nat.zero_le _, by go_num, by simp [sumBayD], by simp [sumBayD]; omega, Below.refl _ _⟩
    case round =>
      obtain ⟨k, hk, rfl, rfl, hp, hb⟩ := hrel
      have hlt : k < x.length := by
        by_cases e : k < x.length
        · exact e
        · obtain rfl : k = x.length := by omega
          have := HS.out
          unfold szBayDs at this
          omega
      obtain ⟨b1, o1, rfl, hT⟩ := (h.mono hb).at hlt
      obtain ⟨l0, c0, c1, c2⟩ := hT
      have S1 := Lib.hid (sumBayD_step hlt)
      have hok := (OK.out _ (List.getElem_mem hlt)).1
      by_cases g2 : left - (x.length : Int) - (sumBayD x k : Int) < x[k].id.size
      · have E3 := Lib.hid (show (-1 : Int) = if left - (x.length : Int) - (sumBayD x k : Int) < x[k].id.size then -1 else left - (x.length : Int) - (sumBayD x k : Int) - x[k].id.size by rw [if_pos g2])
        go_wp2_with fail
        refine (szBayD_any _ x[k] _ _ hp (by omega) hok E3.out).mono ?_
        rintro e w2 ⟨rfl, hb2⟩
        go_wp2
        go_ret
        exact ⟨rfl, hb.trans (hb2.mono hb.size)⟩
      · have E3 := Lib.hid (show left - (x.length : Int) - (sumBayD x (k + 1) : Int) = if left - (x.length : Int) - (sumBayD x k : Int) < x[k].id.size then -1 else left - (x.length : Int) - (sumBayD x k : Int) - x[k].id.size by rw [if_neg g2, S1.out]; omega)
        have e2 : ¬ left - (x.length : Int) - (sumBayD x (k + 1) : Int) < 0 := by rw [S1.out]; omega
        go_wp2_with fail
        refine (szBayD_any _ x[k] _ _ hp (by omega) hok E3.out).mono ?_
        rintro e w2 ⟨rfl, hb2⟩
        go_wp2
        go_roundw
        case rel => exact ⟨k + 1, by omega, by go_num, rfl, by omega, hb.trans (hb2.mono hb.size)⟩
        case measure => simp [intOf] <;> omega

set_option maxHeartbeats 1000000 in
theorem eqBayDsK (v1 v2 : Value) (xs : List BayD) (w : World) (h1 : RdBayDs w v1 xs) (h2 : RdBayDs w v2 xs) :
    Calls Try.prog 21 #[v1, v2] w fun e w' => e = .returned (.bool true) ∧ Below w.heap.size w w' := by
  obtain ⟨a, ca, rfl, hm⟩ := h1.form'
  obtain ⟨b, cb, rfl, _⟩ := h2.form'
  unfold maxLen at hm
  go_enter Try.func21, Try.ntmps21
  go_wp2
  go_loopw [5] (fun i wr => ∃ k : Nat, k ≤ xs.length ∧ i = .int .i64 (k : Int) ∧ Below w.heap.size w wr) (fun i _ => xs.length - (intOf i).toNat)
  case atStart => exact ⟨0, Nat.zero_le _, by go_num, Below.refl _ _⟩
  case round =>
    obtain ⟨k, hk, rfl, hb⟩ := hrel
    by_cases hlt : k < xs.length
    · obtain ⟨b1, o1, rfl, hT⟩ := (h1.mono hb).at hlt
      obtain ⟨l0, c0, c1, c2⟩ := hT
      obtain ⟨b2, o2, rfl, hT2⟩ := (h2.mono hb).at hlt
      obtain ⟨k0, d0, d1, d2⟩ := hT2
      go_wp2
      refine wp_region_ord [(0, true), (1, true), (2, true), (3, true), (4, true), (5, true), (6, true), (7, true), (8, false), (9, true)] (none) (by kernel_rfl) (by kernel_rfl) ?_
      (repeat (with_reducible refine wpOrd_soft (fun K hK => ?_); simp only [List.getElem?_toArray, List.getElem?_cons_zero, List.getElem?_cons_succ]; first | (go_simp; refine hK _ ?_) | (simp only [undef]; go_simp; refine hK _ ?_); clear hK K))
      (with_reducible refine wpOrd_hard ?_; simp only [List.getElem?_toArray, List.getElem?_cons_zero, List.getElem?_cons_succ])
      go_wp2_with fail
      refine (eqBayD_any xs[k] xs[k] _).mono ?_
      rw [show decide (xs[k] = xs[k]) = true from decide_eq_true rfl]
      rintro e w2 ⟨rfl, hb2⟩
      have hbr : Below wr.heap.size wr w2 := undrew hb2
      have hb3 : Below w.heap.size w w2 := hb.trans (hbr.mono hb.size)
      go_wp2
      refine ⟨grown_of_below hbr, ?_⟩
      (repeat (with_reducible refine wpOrd_soft (fun K hK => ?_); simp only [List.getElem?_toArray, List.getElem?_cons_zero, List.getElem?_cons_succ]; first | (go_simp; refine hK _ ?_) | (simp only [undef]; go_simp; refine hK _ ?_); clear hK K))
      (with_reducible refine wpOrd_nil ?_); refine NoPanic.normal ?_
      go_wp2
      go_roundw
      case rel => exact ⟨k + 1, by omega, by go_num, hb3⟩
      case measure => simp [intOf]; omega
    · go_wp2
      go_ret
      exact ⟨rfl, hb⟩

theorem info_Bay : (Try.prog.info? 79).map (fun i => (i.zero, i.size, i.bytes)) = some (some (.agg #[.string ⟨#[]⟩, .int .i64 0, .int .i64 0]), 3, 32) := by kernel_rfl
def zsBayD (n : Nat) : List Value := (List.replicate n [Value.string ⟨#[]⟩, .int .i64 0, .int .i64 0]).flatten
theorem zsBayD_succ (n : Nat) : zsBayD (n + 1) = .string ⟨#[]⟩ :: .int .i64 0 :: .int .i64 0 :: zsBayD n := by simp [zsBayD, List.replicate_succ]
theorem madeBayD (n : Nat) : (madeCells #[Value.string ⟨#[]⟩, .int .i64 0, .int .i64 0] (n * 3)).toList = zsBayD n := by
  have key : ∀ n, (List.range (n * 3)).map (fun i => (#[Value.string ⟨#[]⟩, .int .i64 0, .int .i64 0] : Array Value)[i % 3]!) = zsBayD n := by
    intro n
    induction n with
    | zero => rfl
    | succ n ih =>
      rw [show (n + 1) * 3 = 3 + n * 3 by omega, List.range_add, List.map_append, List.map_map, zsBayD_succ, ← ih]
      have : (fun i => (#[Value.string ⟨#[]⟩, .int .i64 0, .int .i64 0] : Array Value)[i % 3]!) ∘ (3 + ·) = fun i => (#[Value.string ⟨#[]⟩, .int .i64 0, .int .i64 0] : Array Value)[i % 3]! := by
        funext i; simp [Nat.add_mod_left]
      rw [this]; rfl
  rw [← key n]
  simp [madeCells]

theorem storedBayD {w : World} {base : Nat} {e : TypeId} {size g n cap : Nat} {A R : List Value} {z0 z1 z2 : Value} {j : Nat} (h : w.ownsRow base e size (.slice (some ⟨g, 0, none⟩) n cap) n (A ++ z0 :: z1 :: z2 :: R)) (hA : A.length = j) (u0 u1 u2 : Value) :
    (((w.setCell ⟨g, j, none⟩ u0).setCell ⟨g, j + 1, none⟩ u1).setCell ⟨g, j + 2, none⟩ u2).ownsRow base e size (.slice (some ⟨g, 0, none⟩) n cap) n (A ++ u0 :: u1 :: u2 :: R) ∧ w.grownBy (((w.setCell ⟨g, j, none⟩ u0).setCell ⟨g, j + 1, none⟩ u1).setCell ⟨g, j + 2, none⟩ u2) (some g) := by
  have h0 := stored1 (A := A) (z := z0) (R := z1 :: z2 :: R) (j := j) (by simpa using h) (by simp [hA]) u0
  have h1 := stored1 (A := A ++ [u0]) (z := z1) (R := z2 :: R) (j := j + 1) (by simpa using h0.1) (by simp [hA]) u1
  have h2 := stored1 (A := A ++ [u0, u1]) (z := z2) (R := R) (j := j + 2) (by simpa using h1.1) (by simp [hA]) u2
  exact ⟨by simpa using h2.1, (grown_trans h0.2 (grown_trans h1.2 h2.2))⟩

set_option maxHeartbeats 1000000 in
theorem toBayDsK (v1 : Value) (xs : List BayD) (w : World) (h1 : RdBayDs w v1 xs) (hs : szBayDs xs ≤ 1048576) :
    Calls Try.prog 18 #[v1] w fun e w' => ∃ v, e = .returned v ∧ OwnBayDs w.heap.size w'.heap.size w' v xs ∧ Below w.heap.size w w' := by
  obtain ⟨a, ca, rfl, _⟩ := h1.form'
  obtain ⟨i0, hi, hz0, hz1, hz2⟩ := info_parts info_Bay
  have hn := szBayDs_len xs
  have HS := Lib.hid hs; have HN := Lib.hid hn; clear hs hn
  go_enter Try.func18, Try.ntmps18
  go_wp2_with (at_make; refine wpList_make_full _ rfl _ _ 24 rfl w.heap.size 79 i0 _ 3 Try.underlying24 hi hz0 hz1 _ _ _ _ xs.length rfl rfl rfl rfl (by rw [hz2]; have := HS.out; have := HN.out; omega) (by have := HS.out; have := HN.out; unfold maxLen; omega) (Nat.le_refl _) ?_)
  intro w1 hown hgrow
  have hb1 : Below w.heap.size w w1 := (Below.refl _ _).grown hgrow (Nat.le_refl _) (by simp)
  go_wp2
  go_loopw [4] (fun i wr => ∃ k : Nat, k ≤ xs.length ∧ i = .int .i64 (k : Int) ∧ wr.ownsRow w.heap.size 79 3 (.slice (some ⟨w.heap.size, 0, none⟩) xs.length xs.length) xs.length ((xs.take k).flatMap BayD.cells ++ zsBayD (xs.length - k)) ∧ Below w.heap.size w wr) (fun i _ => xs.length - (intOf i).toNat)
  case atStart => exact ⟨0, Nat.zero_le _, by go_num, by simpa [madeBayD, Value.cells] using hown, hb1⟩
  case round =>
    obtain ⟨k, hk, rfl, ho, hb⟩ := hrel
    clear hown hgrow hb1
    by_cases hlt : k < xs.length
    · obtain ⟨b1, o1, rfl, hT⟩ := (h1.mono hb).at hlt
      obtain ⟨l0, c0, c1, c2⟩ := hT
      have hm : xs.length ≤ 1048576 := by have := HS.out; have := HN.out; omega
      go_wp2_with fail
      refine (toBayD_any xs[k] _).mono ?_
      rintro e w2 ⟨rfl, hb2⟩
      have ho2 := owns_mono ho hb2
      have hpl : ((xs.take k).flatMap BayD.cells).length = k * 3 := by rw [BayD.len_cells, List.length_take, Nat.min_eq_left hk]
      rw [show xs.length - k = (xs.length - (k + 1)) + 1 by omega, zsBayD_succ] at ho2

      have d0 : w2.cell? ⟨w.heap.size, k * 3, none⟩ = some (.string ⟨#[]⟩) := by rw [ho2.cellAt _ (by omega), List.getElem?_append_right (by omega), hpl]; simp
      have f0 := ho2.frozenAt (k * 3)
      have d1 : w2.cell? ⟨w.heap.size, k * 3 + 1, none⟩ = some (.int .i64 0) := by rw [ho2.cellAt _ (by omega), List.getElem?_append_right (by omega), hpl]; simp
      have f1 := ho2.frozenAt (k * 3 + 1)
      have d2 : w2.cell? ⟨w.heap.size, k * 3 + 2, none⟩ = some (.int .i64 0) := by rw [ho2.cellAt _ (by omega), List.getElem?_append_right (by omega), hpl]; simp
      have f2 := ho2.frozenAt (k * 3 + 2)
      have HL := Lib.hid hpl; have HO := Lib.hid ho2; clear hpl ho2 ho
      go_wp2
      have e' := storedBayD (A := (xs.take k).flatMap BayD.cells) HO.out HL.out (.string xs[k].id) (.int .i64 xs[k].radius) (.int .i64 xs[k].depth)
      have HE := Lib.hid (show (xs.take (k + 1)).flatMap BayD.cells ++ zsBayD (xs.length - (k + 1)) = (xs.take k).flatMap BayD.cells ++ (.string xs[k].id :: .int .i64 xs[k].radius :: .int .i64 xs[k].depth :: zsBayD (xs.length - (k + 1))) by
        rw [List.take_succ_eq_append_getElem hlt, List.flatMap_append]; simp [BayD.cells])
      rw [← HE.out] at e'
      exact ⟨⟨k + 1, by omega, by go_num, e'.1, (hb.trans (hb2.mono hb.size)).grown e'.2 (by have := hb.size; have := hb2.size; omega) (by intro k hk; cases hk; exact Nat.le_refl _)⟩, by simp [intOf]; omega⟩
    · obtain rfl : k = xs.length := by omega
      go_wp2
      go_ret
      exact ⟨_, rfl, OwnRow.mk' (by simpa [zsBayD] using ho), hb⟩

/-- What a mark leaves does not matter. -/
def MkBayDs (B E : Nat) (w : World) (v : Value) (xs : List BayD) (k : Int) : Prop := True
theorem MkBayDs.mono {B E : Nat} {w w' : World} {v : Value} {xs : List BayD} {k : Int} (h : MkBayDs B E w v xs k) (hb : Below w.heap.size w w') : MkBayDs B E w' v xs k := trivial
theorem MkBayDs.touch {B E B' E' : Nat} {w w' : World} {v : Value} {xs : List BayD} {k : Int} (h : MkBayDs B E w v xs k) (t : Touch B' E' w w') (hd : E ≤ B' ∨ E' ≤ B) : MkBayDs B E w' v xs k := trivial
theorem markBayD_own {B : Nat} {w : World} {te : TypeId} {g n cap j i : Nat} {cs : List Value} (h : w.ownsRow B te 3 (.slice (some ⟨g, 0, none⟩) n cap) n cs) (hi : j < n * 3) (u : Value) :
    (w.setCell ⟨g, j, none⟩ u).ownsRow B te 3 (.slice (some ⟨g, 0, none⟩) n cap) n (cs.set j u) ∧ w.grownBy (w.setCell ⟨g, j, none⟩ u) (some g) := h.stored j u
def sizeBayDs (xs : List BayD) : Nat := xs.length * 3
theorem sizeBayDs_bd {xs : List BayD} (h : szBayDs xs ≤ 1048576) : sizeBayDs xs ≤ 6291456 := by have := szBayDs_len xs; unfold sizeBayDs; omega
set_option maxHeartbeats 2000000 in
theorem markBayDsK (B E : Nat) (v : Value) (xs : List BayD) (k0 : Int) (w : World) (h : OwnBayDs B E w v xs) (h0 : 1 ≤ k0) (hk : k0 + sizeBayDs xs ≤ 1000000000) :
    Calls Try.prog 23 #[v, .int .i64 k0] w fun e w' => e = .returned (.int .i64 (k0 + sizeBayDs xs)) ∧ MkBayDs B E w' v xs k0 ∧ Touch B E w w' := by
  obtain ⟨k, rfl⟩ := Int.eq_ofNat_of_zero_le (show 0 ≤ k0 by omega)
  unfold sizeBayDs at hk ⊢
  obtain ⟨n, hn⟩ : ∃ n, n = xs.length := ⟨_, rfl⟩
  unfold OwnBayDs at h
  rw [← hn] at h hk ⊢
  obtain ⟨cs, hcs⟩ : ∃ cs, cs = xs.flatMap BayD.cells := ⟨_, rfl⟩
  rw [← hcs] at h
  clear hn hcs
  have hm1000 : n ≤ 1000000000 := by omega
  rcases id h.1 with ⟨hl, ⟨rfl, rfl⟩ | ⟨g, cap, cur, rfl, hbase, hg, hn, hc, hs, ht⟩⟩
  · go_enter Try.func23, Try.ntmps23
    go_wp2
    refine wp_loop_rounds 1 ?_
    rw [rounds_succ]
    go_wp2
    go_ret
    exact ⟨by simp, trivial, Touch.refl _ _ _⟩
  · have hgE := h.2 g rfl
    have hgB := (h.1.lt g rfl).1
    clear hg ht hs hn hc hl
    go_enter Try.func23, Try.ntmps23
    go_wp2
    go_loopw [1, 5] (fun q i wr => ∃ (t : Nat) (cs' : List Value), t ≤ n ∧ i = .int .i64 (t : Int) ∧ q = .int .i64 ↑(k + t * 3) ∧ wr.ownsRow B 79 3 (.slice (some ⟨g, 0, none⟩) n cap) n cs' ∧ Touch B E w wr) (fun _ i _ => n - (intOf i).toNat)
    case atStart => exact ⟨0, cs, Nat.zero_le _, by go_num, by simp, h.1, Touch.refl _ _ _⟩
    case round =>
      obtain ⟨t, cs', ht, rfl, rfl, hw, hT⟩ := hrel
      by_cases hlt : t < n
      · have HW := Lib.hid hw
        have HT := Lib.hid hT
        clear hw hT
        go_wp2_with fail
        refine (markText_any (k + t * 3) _ (by omega) (by omega)).mono ?_
        rintro e w1 ⟨rfl, hb1⟩
        have hw := owns_mono HW.out hb1
        have hlen := hw.1
        have HT1 := Lib.hid (HT.out.trans (show Touch B E wr w1 from ⟨hb1.os, hb1.tape, hb1.output, hb1.size, fun k hk _ => hb1.block k hk⟩))

        have d0 : w1.cell? ⟨g, t * 3, none⟩ = some (cs'.getD (t * 3) .nilFunc) := by rw [hw.cellAt _ (by omega), List.getD_eq_getElem?_getD, List.getElem?_eq_getElem (by omega)]; rfl
        have f0 := hw.frozenAt (t * 3)
        have d1 : w1.cell? ⟨g, t * 3 + 1, none⟩ = some (cs'.getD (t * 3 + 1) .nilFunc) := by rw [hw.cellAt _ (by omega), List.getD_eq_getElem?_getD, List.getElem?_eq_getElem (by omega)]; rfl
        have f1 := hw.frozenAt (t * 3 + 1)
        have d2 : w1.cell? ⟨g, t * 3 + 2, none⟩ = some (cs'.getD (t * 3 + 2) .nilFunc) := by rw [hw.cellAt _ (by omega), List.getD_eq_getElem?_getD, List.getElem?_eq_getElem (by omega)]; rfl
        have f2 := hw.frozenAt (t * 3 + 2)
        have HW1 := Lib.hid hw
        clear hw hlen hb1
        go_wp2
        have q0 := HW1.out
        have q1 := (q0).stored (t * 3) (.string (mkT (k + t * 3)))
        have q2 := (q1.1).stored (t * 3 + 1) (.int .i64 ((k : Int) + (t : Int) * 3 + 1))
        have q3 := (q2.1).stored (t * 3 + 2) (.int .i64 ((k : Int) + (t : Int) * 3 + 1 + 1))
        exact ⟨⟨t + 1, _, by omega, by go_num, by go_num, q3.1, (Touch.setCell (Touch.setCell (Touch.setCell HT1.out ⟨hgB, hgE⟩ _) ⟨hgB, hgE⟩ _) ⟨hgB, hgE⟩ _)⟩, by simp [intOf]; omega⟩
      · obtain rfl : t = n := by omega
        go_wp2
        go_ret
        exact ⟨by simp, trivial, hT⟩

end Go.Proofs.Yteaijhmgfddjiaa
