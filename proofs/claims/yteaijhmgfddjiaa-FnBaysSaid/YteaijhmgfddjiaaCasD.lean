/- Contracts of the laws' helpers over Casting and slices of it: copy, equality, size, marks. -/
import Derived.Test.YteaijhmgfddjiaaChecked
import Derived.Test.YteaijhmgfddjiaaRegion
import Derived.Test.YteaijhmgfddjiaaKey
import Derived.Test.YteaijhmgfddjiaaApp
import Derived.Test.YteaijhmgfddjiaaMarkT
import Derived.Test.YteaijhmgfddjiaaStrEq
import Derived.Test.YteaijhmgfddjiaaBayL
import Derived.Deep.QuietTactic
import Derived.BigQuiet
set_option linter.unusedSimpArgs false
set_option linter.unnecessarySimpa false
set_option linter.unusedVariables false
set_option maxRecDepth 100000
namespace Go.Proofs.Yteaijhmgfddjiaa
open Go.RowKit

theorem CasD.ext_iff' (x y : CasD) : x = y ↔ x.bell = y.bell ∧ x.radius = y.radius ∧ x.depth = y.depth ∧ x.thick = y.thick ∧ x.since = y.since := by cases x; cases y; simp [CasD.mk.injEq]
def CasD.cells (x : CasD) : List Value := [.string x.bell, .int .i64 x.radius, .int .i64 x.depth, .int .i64 x.thick, .int .i64 x.since]
def RdCasDs (w : World) (v : Value) (xs : List CasD) : Prop := Sl w v xs.length (xs.flatMap CasD.cells)
def CasD.ok (x : CasD) : Prop := x.bell.size ≤ maxLen ∧ I64 x.radius ∧ I64 x.depth ∧ I64 x.thick ∧ I64 x.since
def okCasDs (xs : List CasD) : Prop := ∀ x ∈ xs, x.ok
theorem CasD.len_cells (xs : List CasD) : (xs.flatMap CasD.cells).length = xs.length * 5 := flat_len (f := CasD.cells) (fun _ => rfl) xs
def OwnCasDs (B E : Nat) (w : World) (v : Value) (xs : List CasD) : Prop := OwnRow B E w 41 5 v xs.length (xs.flatMap CasD.cells)
section
variable {B E B' E' : Nat} {w w' : World} {v : Value} {xs : List CasD}
theorem RdCasDs.mono (h : RdCasDs w v xs) (hb : Below w.heap.size w w') : RdCasDs w' v xs := Sl.mono h hb
theorem RdCasDs.form' (h : RdCasDs w v xs) : ∃ a cap, v = .slice a xs.length cap ∧ xs.length ≤ maxLen := by
  obtain ⟨a, cap, rfl, h1, h2, _⟩ := h
  exact ⟨a, cap, rfl, by omega⟩
theorem RdCasDs.form (h : RdCasDs w v xs) : ∃ a cap, v = .slice a xs.length cap := by
  obtain ⟨a, cap, e, _⟩ := h.form'
  exact ⟨a, cap, e⟩
theorem OwnCasDs.mono (h : OwnCasDs B E w v xs) (hb : Below w.heap.size w w') : OwnCasDs B E w' v xs := OwnRow.mono h hb
theorem OwnCasDs.touch (h : OwnCasDs B E w v xs) (t : Touch B' E' w w') (hd : E ≤ B' ∨ E' ≤ B) : OwnCasDs B E w' v xs := OwnRow.touch h t hd
theorem OwnCasDs.wide (h : OwnCasDs B E w v xs) (hB : B' ≤ B) (hE : E ≤ E') : OwnCasDs B' E' w v xs := OwnRow.wide h hB hE
theorem OwnCasDs.rd (h : OwnCasDs B E w v xs) : RdCasDs w v xs := OwnRow.sl h
theorem OwnCasDs.form (h : OwnCasDs B E w v xs) : ∃ a cap, v = .slice a xs.length cap := OwnRow.form h
/-- A Casting lies in block b from cell off on. -/
structure CasDIn (w : World) (b off : Nat) (x : CasD) : Prop where
  lt : b < w.heap.size
  c0 : w.cell? ⟨b, off, none⟩ = some (.string x.bell)
  c1 : w.cell? ⟨b, off + 1, none⟩ = some (.int .i64 x.radius)
  c2 : w.cell? ⟨b, off + 2, none⟩ = some (.int .i64 x.depth)
  c3 : w.cell? ⟨b, off + 3, none⟩ = some (.int .i64 x.thick)
  c4 : w.cell? ⟨b, off + 4, none⟩ = some (.int .i64 x.since)
theorem RdCasDs.at {a : Option Addr} {cap k : Nat} (h : RdCasDs w (.slice a xs.length cap) xs) (hk : k < xs.length) :
    ∃ b off, a = some ⟨b, off, none⟩ ∧ CasDIn w b (off + k * 5) xs[k] := by
  obtain ⟨b, off, rfl, hc⟩ := Sl.cells h (by rw [CasD.len_cells]; omega)
  have h0 := hc (k * 5 + 0) _ (flat_at (f := CasD.cells) (m := 5) (fun _ => rfl) xs k 0 hk (by omega) (u := .string xs[k].bell) rfl)
  have h1 := hc (k * 5 + 1) _ (flat_at (f := CasD.cells) (m := 5) (fun _ => rfl) xs k 1 hk (by omega) (u := .int .i64 xs[k].radius) rfl)
  have h2 := hc (k * 5 + 2) _ (flat_at (f := CasD.cells) (m := 5) (fun _ => rfl) xs k 2 hk (by omega) (u := .int .i64 xs[k].depth) rfl)
  have h3 := hc (k * 5 + 3) _ (flat_at (f := CasD.cells) (m := 5) (fun _ => rfl) xs k 3 hk (by omega) (u := .int .i64 xs[k].thick) rfl)
  have h4 := hc (k * 5 + 4) _ (flat_at (f := CasD.cells) (m := 5) (fun _ => rfl) xs k 4 hk (by omega) (u := .int .i64 xs[k].since) rfl)
  exact ⟨b, off, rfl, ⟨World.block_lt_of_cell? w _ h0, by simpa [Nat.add_assoc] using h0, by simpa [Nat.add_assoc] using h1, by simpa [Nat.add_assoc] using h2, by simpa [Nat.add_assoc] using h3, by simpa [Nat.add_assoc] using h4⟩⟩
end

theorem toCasD_any (x : CasD) (w : World) :
    Calls Try.prog 53 #[.agg #[.string x.bell, .int .i64 x.radius, .int .i64 x.depth, .int .i64 x.thick, .int .i64 x.since]] w fun e w' => e = .returned (.agg #[.string x.bell, .int .i64 x.radius, .int .i64 x.depth, .int .i64 x.thick, .int .i64 x.since]) ∧ Below w.heap.size w w' := by
  go_enter Try.func53, Try.ntmps53
  go_wp2
  refine bodyPost_ret (v := .agg #[.string x.bell, .int .i64 x.radius, .int .i64 x.depth, .int .i64 x.thick, .int .i64 x.since]) (by simp [results, Try.results53, go_sem]) rfl ⟨rfl, ?_⟩
  (repeat (first | with_reducible exact Below.refl _ _ | with_reducible exact hbw | (with_reducible refine Below.setCell ?_ ?_ _; rotate_left; · first | exact Nat.le_refl _ | omega | (simp; done) | (simp; omega)) | (with_reducible refine Below.alloc ?_ ?_ _; rotate_left; · first | exact Nat.le_refl _ | omega | (simp; done) | (simp; omega)) | with_reducible refine below_drewN ?_ _ | with_reducible refine Below.drew ?_))

theorem eqCasD_any (x y : CasD) (w : World) :
    Calls Try.prog 55 #[.agg #[.string x.bell, .int .i64 x.radius, .int .i64 x.depth, .int .i64 x.thick, .int .i64 x.since], .agg #[.string y.bell, .int .i64 y.radius, .int .i64 y.depth, .int .i64 y.thick, .int .i64 y.since]] w fun e w' => e = .returned (.bool (decide (x = y))) ∧ Below w.heap.size w w' := by
  by_cases h0 : x.bell = y.bell
  · skip
    by_cases h1 : x.radius = y.radius
    · skip
      by_cases h2 : x.depth = y.depth
      · skip
        by_cases h3 : x.thick = y.thick
        · skip
          by_cases h4 : x.since = y.since
          · skip
            have e_bell : (x.bell.toList == y.bell.toList) = true := by rw [strEq]; simpa using h0
            have e_radius : (x.radius != y.radius) = false := by simpa using h1
            have e_depth : (x.depth != y.depth) = false := by simpa using h2
            have e_thick : (x.thick != y.thick) = false := by simpa using h3
            have e_since : (x.since != y.since) = false := by simpa using h4
            have hd : decide (x = y) = true := by apply decide_eq_true; rw [CasD.ext_iff']; simp [*]
            have HD := Lib.hid hd; clear hd h0 h1 h2 h3 h4
            go_enter Try.func55, Try.ntmps55
            go_wp2
            go_ret
            refine ⟨by rw [HD.out]; rfl, ?_⟩
            (repeat (first | with_reducible exact Below.refl _ _ | with_reducible exact hbw | (with_reducible refine Below.setCell ?_ ?_ _; rotate_left; · first | exact Nat.le_refl _ | omega | (simp; done) | (simp; omega)) | (with_reducible refine Below.alloc ?_ ?_ _; rotate_left; · first | exact Nat.le_refl _ | omega | (simp; done) | (simp; omega)) | with_reducible refine below_drewN ?_ _ | with_reducible refine Below.drew ?_))
          · skip
            have e_bell : (x.bell.toList == y.bell.toList) = true := by rw [strEq]; simpa using h0
            have e_radius : (x.radius != y.radius) = false := by simpa using h1
            have e_depth : (x.depth != y.depth) = false := by simpa using h2
            have e_thick : (x.thick != y.thick) = false := by simpa using h3
            have e_since : (x.since != y.since) = true := by simpa using h4
            have hd : decide (x = y) = false := by apply decide_eq_false; rw [CasD.ext_iff']; simp [*]
            have HD := Lib.hid hd; clear hd h0 h1 h2 h3 h4
            go_enter Try.func55, Try.ntmps55
            go_wp2
            go_ret
            refine ⟨by rw [HD.out]; rfl, ?_⟩
            (repeat (first | with_reducible exact Below.refl _ _ | with_reducible exact hbw | (with_reducible refine Below.setCell ?_ ?_ _; rotate_left; · first | exact Nat.le_refl _ | omega | (simp; done) | (simp; omega)) | (with_reducible refine Below.alloc ?_ ?_ _; rotate_left; · first | exact Nat.le_refl _ | omega | (simp; done) | (simp; omega)) | with_reducible refine below_drewN ?_ _ | with_reducible refine Below.drew ?_))
        · skip
          have e_bell : (x.bell.toList == y.bell.toList) = true := by rw [strEq]; simpa using h0
          have e_radius : (x.radius != y.radius) = false := by simpa using h1
          have e_depth : (x.depth != y.depth) = false := by simpa using h2
          have e_thick : (x.thick != y.thick) = true := by simpa using h3
          have hd : decide (x = y) = false := by apply decide_eq_false; rw [CasD.ext_iff']; simp [*]
          have HD := Lib.hid hd; clear hd h0 h1 h2 h3
          go_enter Try.func55, Try.ntmps55
          go_wp2
          go_ret
          refine ⟨by rw [HD.out]; rfl, ?_⟩
          (repeat (first | with_reducible exact Below.refl _ _ | with_reducible exact hbw | (with_reducible refine Below.setCell ?_ ?_ _; rotate_left; · first | exact Nat.le_refl _ | omega | (simp; done) | (simp; omega)) | (with_reducible refine Below.alloc ?_ ?_ _; rotate_left; · first | exact Nat.le_refl _ | omega | (simp; done) | (simp; omega)) | with_reducible refine below_drewN ?_ _ | with_reducible refine Below.drew ?_))
      · skip
        have e_bell : (x.bell.toList == y.bell.toList) = true := by rw [strEq]; simpa using h0
        have e_radius : (x.radius != y.radius) = false := by simpa using h1
        have e_depth : (x.depth != y.depth) = true := by simpa using h2
        have hd : decide (x = y) = false := by apply decide_eq_false; rw [CasD.ext_iff']; simp [*]
        have HD := Lib.hid hd; clear hd h0 h1 h2
        go_enter Try.func55, Try.ntmps55
        go_wp2
        go_ret
        refine ⟨by rw [HD.out]; rfl, ?_⟩
        (repeat (first | with_reducible exact Below.refl _ _ | with_reducible exact hbw | (with_reducible refine Below.setCell ?_ ?_ _; rotate_left; · first | exact Nat.le_refl _ | omega | (simp; done) | (simp; omega)) | (with_reducible refine Below.alloc ?_ ?_ _; rotate_left; · first | exact Nat.le_refl _ | omega | (simp; done) | (simp; omega)) | with_reducible refine below_drewN ?_ _ | with_reducible refine Below.drew ?_))
    · skip
      have e_bell : (x.bell.toList == y.bell.toList) = true := by rw [strEq]; simpa using h0
      have e_radius : (x.radius != y.radius) = true := by simpa using h1
      have hd : decide (x = y) = false := by apply decide_eq_false; rw [CasD.ext_iff']; simp [*]
      have HD := Lib.hid hd; clear hd h0 h1
      go_enter Try.func55, Try.ntmps55
      go_wp2
      go_ret
      refine ⟨by rw [HD.out]; rfl, ?_⟩
      (repeat (first | with_reducible exact Below.refl _ _ | with_reducible exact hbw | (with_reducible refine Below.setCell ?_ ?_ _; rotate_left; · first | exact Nat.le_refl _ | omega | (simp; done) | (simp; omega)) | (with_reducible refine Below.alloc ?_ ?_ _; rotate_left; · first | exact Nat.le_refl _ | omega | (simp; done) | (simp; omega)) | with_reducible refine below_drewN ?_ _ | with_reducible refine Below.drew ?_))
  · skip
    have e_bell : (x.bell.toList == y.bell.toList) = false := by rw [strEq]; simpa using h0
    have hd : decide (x = y) = false := by apply decide_eq_false; rw [CasD.ext_iff']; simp [*]
    have HD := Lib.hid hd; clear hd h0
    go_enter Try.func55, Try.ntmps55
    go_wp2
    go_ret
    refine ⟨by rw [HD.out]; rfl, ?_⟩
    (repeat (first | with_reducible exact Below.refl _ _ | with_reducible exact hbw | (with_reducible refine Below.setCell ?_ ?_ _; rotate_left; · first | exact Nat.le_refl _ | omega | (simp; done) | (simp; omega)) | (with_reducible refine Below.alloc ?_ ?_ _; rotate_left; · first | exact Nat.le_refl _ | omega | (simp; done) | (simp; omega)) | with_reducible refine below_drewN ?_ _ | with_reducible refine Below.drew ?_))

/-- How many bytes the first k texts have. -/
def sumCasD (xs : List CasD) : Nat → Nat
  | 0 => 0
  | k + 1 => sumCasD xs k + (xs[k]?.map fun x => x.bell.size).getD 0
theorem sumCasD_step {xs : List CasD} {k : Nat} (h : k < xs.length) : sumCasD xs (k + 1) = sumCasD xs k + xs[k].bell.size := by simp [sumCasD, h]
theorem sumCasD_mono (xs : List CasD) (k j : Nat) : sumCasD xs k ≤ sumCasD xs (k + j) := by
  induction j with
  | zero => exact Nat.le_refl _
  | succ j ih => exact Nat.le_trans ih (by rw [← Nat.add_assoc]; simp [sumCasD])
theorem sumCasD_le {xs : List CasD} {k : Nat} (h : k ≤ xs.length) : sumCasD xs k ≤ sumCasD xs xs.length := by
  have := sumCasD_mono xs k (xs.length - k)
  rwa [show k + (xs.length - k) = xs.length by omega] at this
def szCasDs (xs : List CasD) : Nat := xs.length + sumCasD xs xs.length
theorem szCasDs_len (xs : List CasD) : xs.length ≤ szCasDs xs := by unfold szCasDs; omega
theorem szCasD_any (o : Int) (x : CasD) (left : Int) (w : World) (h0 : 0 ≤ left) (hl : left ≤ 1048576) (hs : x.bell.size ≤ maxLen) (ho : o = if left < x.bell.size then -1 else left - x.bell.size) :
    Calls Try.prog 48 #[.agg #[.string x.bell, .int .i64 x.radius, .int .i64 x.depth, .int .i64 x.thick, .int .i64 x.since], .int .i64 left] w fun e w' => e = .returned (.int .i64 o) ∧ Below w.heap.size w w' := by
  unfold maxLen at hs
  by_cases g : left < x.bell.size
  · have e1 : left - (x.bell.size : Int) < 0 := by omega
    rw [if_pos g] at ho
    subst ho
    go_enter Try.func48, Try.ntmps48
    go_wp2
    go_ret
    refine ⟨rfl, ?_⟩
    (repeat (first | with_reducible exact Below.refl _ _ | with_reducible exact hbw | (with_reducible refine Below.setCell ?_ ?_ _; rotate_left; · first | exact Nat.le_refl _ | omega | (simp; done) | (simp; omega)) | (with_reducible refine Below.alloc ?_ ?_ _; rotate_left; · first | exact Nat.le_refl _ | omega | (simp; done) | (simp; omega)) | with_reducible refine below_drewN ?_ _ | with_reducible refine Below.drew ?_))
  · have e1 : ¬ left - (x.bell.size : Int) < 0 := by omega
    rw [if_neg g] at ho
    subst ho
    go_enter Try.func48, Try.ntmps48
    go_wp2
    go_ret
    refine ⟨rfl, ?_⟩
    (repeat (first | with_reducible exact Below.refl _ _ | with_reducible exact hbw | (with_reducible refine Below.setCell ?_ ?_ _; rotate_left; · first | exact Nat.le_refl _ | omega | (simp; done) | (simp; omega)) | (with_reducible refine Below.alloc ?_ ?_ _; rotate_left; · first | exact Nat.le_refl _ | omega | (simp; done) | (simp; omega)) | with_reducible refine below_drewN ?_ _ | with_reducible refine Below.drew ?_))

set_option maxHeartbeats 1000000 in
theorem szCasDsY (v : Value) (x : List CasD) (left : Int) (w : World) (h : RdCasDs w v x) (ok : okCasDs x) (h0 : 0 ≤ left) (hl : left ≤ 1048576) (hs : szCasDs x ≤ left) :
    Calls Try.prog 16 #[v, .int .i64 left] w fun e w' => e = .returned (.int .i64 (left - szCasDs x)) ∧ Below w.heap.size w w' := by
  obtain ⟨a, ca, rfl, hm⟩ := h.form'
  unfold maxLen at hm
  have hsl := szCasDs_len x
  have e1 : ¬ left - (x.length : Int) < 0 := by omega
  have OK := Lib.hid ok
  clear ok
  go_enter Try.func16, Try.ntmps16
  go_wp2_with fail
  go_loopw [1, 5] (fun l i wr => ∃ k : Nat, k ≤ x.length ∧ i = .int .i64 (k : Int) ∧ l = .int .i64 (left - x.length - sumCasD x k) ∧ Below w.heap.size w wr) (fun _ i _ => x.length - (intOf i).toNat)
  case atStart => exact ⟨0, Nat.zero_le _, by go_num, by simp [sumCasD], Below.refl _ _⟩
  case round =>
    obtain ⟨k, hk, rfl, rfl, hb⟩ := hrel
    by_cases hlt : k < x.length
    · obtain ⟨b1, o1, rfl, hT⟩ := (h.mono hb).at hlt
      obtain ⟨l0, c0, c1, c2, c3, c4⟩ := hT
      have s1 := sumCasD_step hlt
      have s2 := sumCasD_le (xs := x) (k := k + 1) (by omega)
      have s3 : szCasDs x = x.length + sumCasD x x.length := rfl
      have s4 : (sumCasD x (k + 1) : Int) ≤ left - x.length := by omega
      have S1 := Lib.hid s1
      have e2 : ¬ left - (x.length : Int) - (sumCasD x (k + 1) : Int) < 0 := by omega
      have i1 : 0 ≤ left - (x.length : Int) - (sumCasD x k : Int) := by omega
      have E3 := Lib.hid (show left - (x.length : Int) - (sumCasD x (k + 1) : Int) = if left - (x.length : Int) - (sumCasD x k : Int) < x[k].bell.size then -1 else left - (x.length : Int) - (sumCasD x k : Int) - x[k].bell.size by rw [if_neg (by omega)]; omega)
      clear s1 s2 s3 s4
      go_wp2_with fail
      refine (szCasD_any _ x[k] _ _ i1 (by omega) (OK.out _ (List.getElem_mem hlt)).1 E3.out).mono ?_
      rintro e w2 ⟨rfl, hb2⟩
      go_wp2
      go_roundw
      case rel => exact ⟨k + 1, by omega, by go_num, rfl, hb.trans (hb2.mono hb.size)⟩
      case measure => simp [intOf] <;> omega
    · obtain rfl : k = x.length := by omega
      go_wp2
      go_ret
      exact ⟨ret_int (by unfold szCasDs; omega), hb⟩

set_option maxHeartbeats 1000000 in
theorem szCasDsN (v : Value) (x : List CasD) (left : Int) (w : World) (h : RdCasDs w v x) (ok : okCasDs x) (h0 : 0 ≤ left) (hl : left ≤ 1048576) (hs : left < szCasDs x) :
    Calls Try.prog 16 #[v, .int .i64 left] w fun e w' => e = .returned (.int .i64 (-1)) ∧ Below w.heap.size w w' := by
  obtain ⟨a, ca, rfl, hm⟩ := h.form'
  unfold maxLen at hm
  have HS := Lib.hid hs; clear hs
  have OK := Lib.hid ok
  clear ok
  by_cases g : left < x.length
  · have e1 : left - (x.length : Int) < 0 := by omega
    go_enter Try.func16, Try.ntmps16
    go_wp2
    go_ret
    exact ⟨rfl, Below.refl _ _⟩
  · have e1 : ¬ left - (x.length : Int) < 0 := by omega
    go_enter Try.func16, Try.ntmps16
    go_wp2_with fail
    go_loopw [1, 5] (fun l i wr => ∃ k : Nat, k ≤ x.length ∧ i = .int .i64 (k : Int) ∧ l = .int .i64 (left - x.length - sumCasD x k) ∧ 0 ≤ left - x.length - sumCasD x k ∧ Below w.heap.size w wr) (fun _ i _ => x.length - (intOf i).toNat)
    case atStart => exact ⟨0, Nat.zero_le _, by go_num, by simp [sumCasD], by simp [sumCasD]; omega, Below.refl _ _⟩
    case round =>
      obtain ⟨k, hk, rfl, rfl, hp, hb⟩ := hrel
      have hlt : k < x.length := by
        by_cases e : k < x.length
        · exact e
        · obtain rfl : k = x.length := by omega
          have := HS.out
          unfold szCasDs at this
          omega
      obtain ⟨b1, o1, rfl, hT⟩ := (h.mono hb).at hlt
      obtain ⟨l0, c0, c1, c2, c3, c4⟩ := hT
      have S1 := Lib.hid (sumCasD_step hlt)
      have hok := (OK.out _ (List.getElem_mem hlt)).1
      by_cases g2 : left - (x.length : Int) - (sumCasD x k : Int) < x[k].bell.size
      · have E3 := Lib.hid (show (-1 : Int) = if left - (x.length : Int) - (sumCasD x k : Int) < x[k].bell.size then -1 else left - (x.length : Int) - (sumCasD x k : Int) - x[k].bell.size by rw [if_pos g2])
        go_wp2_with fail
        refine (szCasD_any _ x[k] _ _ hp (by omega) hok E3.out).mono ?_
        rintro e w2 ⟨rfl, hb2⟩
        go_wp2
        go_ret
        exact ⟨rfl, hb.trans (hb2.mono hb.size)⟩
      · have E3 := Lib.hid (show left - (x.length : Int) - (sumCasD x (k + 1) : Int) = if left - (x.length : Int) - (sumCasD x k : Int) < x[k].bell.size then -1 else left - (x.length : Int) - (sumCasD x k : Int) - x[k].bell.size by rw [if_neg g2, S1.out]; omega)
        have e2 : ¬ left - (x.length : Int) - (sumCasD x (k + 1) : Int) < 0 := by rw [S1.out]; omega
        go_wp2_with fail
        refine (szCasD_any _ x[k] _ _ hp (by omega) hok E3.out).mono ?_
        rintro e w2 ⟨rfl, hb2⟩
        go_wp2
        go_roundw
        case rel => exact ⟨k + 1, by omega, by go_num, rfl, by omega, hb.trans (hb2.mono hb.size)⟩
        case measure => simp [intOf] <;> omega

set_option maxHeartbeats 1000000 in
theorem eqCasDsK (v1 v2 : Value) (xs : List CasD) (w : World) (h1 : RdCasDs w v1 xs) (h2 : RdCasDs w v2 xs) :
    Calls Try.prog 22 #[v1, v2] w fun e w' => e = .returned (.bool true) ∧ Below w.heap.size w w' := by
  obtain ⟨a, ca, rfl, hm⟩ := h1.form'
  obtain ⟨b, cb, rfl, _⟩ := h2.form'
  unfold maxLen at hm
  go_enter Try.func22, Try.ntmps22
  go_wp2
  go_loopw [5] (fun i wr => ∃ k : Nat, k ≤ xs.length ∧ i = .int .i64 (k : Int) ∧ Below w.heap.size w wr) (fun i _ => xs.length - (intOf i).toNat)
  case atStart => exact ⟨0, Nat.zero_le _, by go_num, Below.refl _ _⟩
  case round =>
    obtain ⟨k, hk, rfl, hb⟩ := hrel
    by_cases hlt : k < xs.length
    · obtain ⟨b1, o1, rfl, hT⟩ := (h1.mono hb).at hlt
      obtain ⟨l0, c0, c1, c2, c3, c4⟩ := hT
      obtain ⟨b2, o2, rfl, hT2⟩ := (h2.mono hb).at hlt
      obtain ⟨k0, d0, d1, d2, d3, d4⟩ := hT2
      go_wp2
      refine wp_region_ord [(0, true), (1, true), (2, true), (3, true), (4, true), (5, true), (6, true), (7, true), (8, false), (9, true)] (none) (by kernel_rfl) (by kernel_rfl) ?_
      (repeat (with_reducible refine wpOrd_soft (fun K hK => ?_); simp only [List.getElem?_toArray, List.getElem?_cons_zero, List.getElem?_cons_succ]; first | (go_simp; refine hK _ ?_) | (simp only [undef]; go_simp; refine hK _ ?_); clear hK K))
      (with_reducible refine wpOrd_hard ?_; simp only [List.getElem?_toArray, List.getElem?_cons_zero, List.getElem?_cons_succ])
      go_wp2_with fail
      refine (eqCasD_any xs[k] xs[k] _).mono ?_
      rw [show decide (xs[k] = xs[k]) = true from decide_eq_true rfl]
      rintro e w2 ⟨rfl, hb2⟩
      have hbr : Below wr.heap.size wr w2 := undrew hb2
      have hb3 : Below w.heap.size w w2 := hb.trans (hbr.mono hb.size)
      go_wp2
      refine ⟨grown_of_below hbr, ?_⟩
      (repeat (with_reducible refine wpOrd_soft (fun K hK => ?_); simp only [List.getElem?_toArray, List.getElem?_cons_zero, List.getElem?_cons_succ]; first | (go_simp; refine hK _ ?_) | (simp only [undef]; go_simp; refine hK _ ?_); clear hK K))
      (with_reducible refine wpOrd_nil ?_); refine NoPanic.normal ?_
      go_wp2
      go_roundw
      case rel => exact ⟨k + 1, by omega, by go_num, hb3⟩
      case measure => simp [intOf]; omega
    · go_wp2
      go_ret
      exact ⟨rfl, hb⟩

theorem info_Casting : (Try.prog.info? 41).map (fun i => (i.zero, i.size, i.bytes)) = some (some (.agg #[.string ⟨#[]⟩, .int .i64 0, .int .i64 0, .int .i64 0, .int .i64 0]), 5, 48) := by kernel_rfl
def zsCasD (n : Nat) : List Value := (List.replicate n [Value.string ⟨#[]⟩, .int .i64 0, .int .i64 0, .int .i64 0, .int .i64 0]).flatten
theorem zsCasD_succ (n : Nat) : zsCasD (n + 1) = .string ⟨#[]⟩ :: .int .i64 0 :: .int .i64 0 :: .int .i64 0 :: .int .i64 0 :: zsCasD n := by simp [zsCasD, List.replicate_succ]
theorem madeCasD (n : Nat) : (madeCells #[Value.string ⟨#[]⟩, .int .i64 0, .int .i64 0, .int .i64 0, .int .i64 0] (n * 5)).toList = zsCasD n := by
  have key : ∀ n, (List.range (n * 5)).map (fun i => (#[Value.string ⟨#[]⟩, .int .i64 0, .int .i64 0, .int .i64 0, .int .i64 0] : Array Value)[i % 5]!) = zsCasD n := by
    intro n
    induction n with
    | zero => rfl
    | succ n ih =>
      rw [show (n + 1) * 5 = 5 + n * 5 by omega, List.range_add, List.map_append, List.map_map, zsCasD_succ, ← ih]
      have : (fun i => (#[Value.string ⟨#[]⟩, .int .i64 0, .int .i64 0, .int .i64 0, .int .i64 0] : Array Value)[i % 5]!) ∘ (5 + ·) = fun i => (#[Value.string ⟨#[]⟩, .int .i64 0, .int .i64 0, .int .i64 0, .int .i64 0] : Array Value)[i % 5]! := by
        funext i; simp [Nat.add_mod_left]
      rw [this]; rfl
  rw [← key n]
  simp [madeCells]

theorem storedCasD {w : World} {base : Nat} {e : TypeId} {size g n cap : Nat} {A R : List Value} {z0 z1 z2 z3 z4 : Value} {j : Nat} (h : w.ownsRow base e size (.slice (some ⟨g, 0, none⟩) n cap) n (A ++ z0 :: z1 :: z2 :: z3 :: z4 :: R)) (hA : A.length = j) (u0 u1 u2 u3 u4 : Value) :
    (((((w.setCell ⟨g, j, none⟩ u0).setCell ⟨g, j + 1, none⟩ u1).setCell ⟨g, j + 2, none⟩ u2).setCell ⟨g, j + 3, none⟩ u3).setCell ⟨g, j + 4, none⟩ u4).ownsRow base e size (.slice (some ⟨g, 0, none⟩) n cap) n (A ++ u0 :: u1 :: u2 :: u3 :: u4 :: R) ∧ w.grownBy (((((w.setCell ⟨g, j, none⟩ u0).setCell ⟨g, j + 1, none⟩ u1).setCell ⟨g, j + 2, none⟩ u2).setCell ⟨g, j + 3, none⟩ u3).setCell ⟨g, j + 4, none⟩ u4) (some g) := by
  have h0 := stored1 (A := A) (z := z0) (R := z1 :: z2 :: z3 :: z4 :: R) (j := j) (by simpa using h) (by simp [hA]) u0
  have h1 := stored1 (A := A ++ [u0]) (z := z1) (R := z2 :: z3 :: z4 :: R) (j := j + 1) (by simpa using h0.1) (by simp [hA]) u1
  have h2 := stored1 (A := A ++ [u0, u1]) (z := z2) (R := z3 :: z4 :: R) (j := j + 2) (by simpa using h1.1) (by simp [hA]) u2
  have h3 := stored1 (A := A ++ [u0, u1, u2]) (z := z3) (R := z4 :: R) (j := j + 3) (by simpa using h2.1) (by simp [hA]) u3
  have h4 := stored1 (A := A ++ [u0, u1, u2, u3]) (z := z4) (R := R) (j := j + 4) (by simpa using h3.1) (by simp [hA]) u4
  exact ⟨by simpa using h4.1, (grown_trans h0.2 (grown_trans h1.2 (grown_trans h2.2 (grown_trans h3.2 h4.2))))⟩

set_option maxHeartbeats 1000000 in
theorem toCasDsK (v1 : Value) (xs : List CasD) (w : World) (h1 : RdCasDs w v1 xs) (hs : szCasDs xs ≤ 1048576) :
    Calls Try.prog 19 #[v1] w fun e w' => ∃ v, e = .returned v ∧ OwnCasDs w.heap.size w'.heap.size w' v xs ∧ Below w.heap.size w w' := by
  obtain ⟨a, ca, rfl, _⟩ := h1.form'
  obtain ⟨i0, hi, hz0, hz1, hz2⟩ := info_parts info_Casting
  have hn := szCasDs_len xs
  have HS := Lib.hid hs; have HN := Lib.hid hn; clear hs hn
  go_enter Try.func19, Try.ntmps19
  go_wp2_with (at_make; refine wpList_make_full _ rfl _ _ 25 rfl w.heap.size 41 i0 _ 5 Try.underlying25 hi hz0 hz1 _ _ _ _ xs.length rfl rfl rfl rfl (by rw [hz2]; have := HS.out; have := HN.out; omega) (by have := HS.out; have := HN.out; unfold maxLen; omega) (Nat.le_refl _) ?_)
  intro w1 hown hgrow
  have hb1 : Below w.heap.size w w1 := (Below.refl _ _).grown hgrow (Nat.le_refl _) (by simp)
  go_wp2
  go_loopw [4] (fun i wr => ∃ k : Nat, k ≤ xs.length ∧ i = .int .i64 (k : Int) ∧ wr.ownsRow w.heap.size 41 5 (.slice (some ⟨w.heap.size, 0, none⟩) xs.length xs.length) xs.length ((xs.take k).flatMap CasD.cells ++ zsCasD (xs.length - k)) ∧ Below w.heap.size w wr) (fun i _ => xs.length - (intOf i).toNat)
  case atStart => exact ⟨0, Nat.zero_le _, by go_num, by simpa [madeCasD, Value.cells] using hown, hb1⟩
  case round =>
    obtain ⟨k, hk, rfl, ho, hb⟩ := hrel
    clear hown hgrow hb1
    by_cases hlt : k < xs.length
    · obtain ⟨b1, o1, rfl, hT⟩ := (h1.mono hb).at hlt
      obtain ⟨l0, c0, c1, c2, c3, c4⟩ := hT
      have hm : xs.length ≤ 1048576 := by have := HS.out; have := HN.out; omega
      go_wp2_with fail
      refine (toCasD_any xs[k] _).mono ?_
      rintro e w2 ⟨rfl, hb2⟩
      have ho2 := owns_mono ho hb2
      have hpl : ((xs.take k).flatMap CasD.cells).length = k * 5 := by rw [CasD.len_cells, List.length_take, Nat.min_eq_left hk]
      rw [show xs.length - k = (xs.length - (k + 1)) + 1 by omega, zsCasD_succ] at ho2

      have d0 : w2.cell? ⟨w.heap.size, k * 5, none⟩ = some (.string ⟨#[]⟩) := by rw [ho2.cellAt _ (by omega), List.getElem?_append_right (by omega), hpl]; simp
      have f0 := ho2.frozenAt (k * 5)
      have d1 : w2.cell? ⟨w.heap.size, k * 5 + 1, none⟩ = some (.int .i64 0) := by rw [ho2.cellAt _ (by omega), List.getElem?_append_right (by omega), hpl]; simp
      have f1 := ho2.frozenAt (k * 5 + 1)
      have d2 : w2.cell? ⟨w.heap.size, k * 5 + 2, none⟩ = some (.int .i64 0) := by rw [ho2.cellAt _ (by omega), List.getElem?_append_right (by omega), hpl]; simp
      have f2 := ho2.frozenAt (k * 5 + 2)
      have d3 : w2.cell? ⟨w.heap.size, k * 5 + 3, none⟩ = some (.int .i64 0) := by rw [ho2.cellAt _ (by omega), List.getElem?_append_right (by omega), hpl]; simp
      have f3 := ho2.frozenAt (k * 5 + 3)
      have d4 : w2.cell? ⟨w.heap.size, k * 5 + 4, none⟩ = some (.int .i64 0) := by rw [ho2.cellAt _ (by omega), List.getElem?_append_right (by omega), hpl]; simp
      have f4 := ho2.frozenAt (k * 5 + 4)
      have HL := Lib.hid hpl; have HO := Lib.hid ho2; clear hpl ho2 ho
      go_wp2
      have e' := storedCasD (A := (xs.take k).flatMap CasD.cells) HO.out HL.out (.string xs[k].bell) (.int .i64 xs[k].radius) (.int .i64 xs[k].depth) (.int .i64 xs[k].thick) (.int .i64 xs[k].since)
      have HE := Lib.hid (show (xs.take (k + 1)).flatMap CasD.cells ++ zsCasD (xs.length - (k + 1)) = (xs.take k).flatMap CasD.cells ++ (.string xs[k].bell :: .int .i64 xs[k].radius :: .int .i64 xs[k].depth :: .int .i64 xs[k].thick :: .int .i64 xs[k].since :: zsCasD (xs.length - (k + 1))) by
        rw [List.take_succ_eq_append_getElem hlt, List.flatMap_append]; simp [CasD.cells])
      rw [← HE.out] at e'
      exact ⟨⟨k + 1, by omega, by go_num, e'.1, (hb.trans (hb2.mono hb.size)).grown e'.2 (by have := hb.size; have := hb2.size; omega) (by intro k hk; cases hk; exact Nat.le_refl _)⟩, by simp [intOf]; omega⟩
    · obtain rfl : k = xs.length := by omega
      go_wp2
      go_ret
      exact ⟨_, rfl, OwnRow.mk' (by simpa [zsCasD] using ho), hb⟩

/-- What a mark leaves does not matter. -/
def MkCasDs (B E : Nat) (w : World) (v : Value) (xs : List CasD) (k : Int) : Prop := True
theorem MkCasDs.mono {B E : Nat} {w w' : World} {v : Value} {xs : List CasD} {k : Int} (h : MkCasDs B E w v xs k) (hb : Below w.heap.size w w') : MkCasDs B E w' v xs k := trivial
theorem MkCasDs.touch {B E B' E' : Nat} {w w' : World} {v : Value} {xs : List CasD} {k : Int} (h : MkCasDs B E w v xs k) (t : Touch B' E' w w') (hd : E ≤ B' ∨ E' ≤ B) : MkCasDs B E w' v xs k := trivial
theorem markCasD_own {B : Nat} {w : World} {te : TypeId} {g n cap j i : Nat} {cs : List Value} (h : w.ownsRow B te 5 (.slice (some ⟨g, 0, none⟩) n cap) n cs) (hi : j < n * 5) (u : Value) :
    (w.setCell ⟨g, j, none⟩ u).ownsRow B te 5 (.slice (some ⟨g, 0, none⟩) n cap) n (cs.set j u) ∧ w.grownBy (w.setCell ⟨g, j, none⟩ u) (some g) := h.stored j u
def sizeCasDs (xs : List CasD) : Nat := xs.length * 5
theorem sizeCasDs_bd {xs : List CasD} (h : szCasDs xs ≤ 1048576) : sizeCasDs xs ≤ 6291456 := by have := szCasDs_len xs; unfold sizeCasDs; omega
set_option maxHeartbeats 2000000 in
theorem markCasDsK (B E : Nat) (v : Value) (xs : List CasD) (k0 : Int) (w : World) (h : OwnCasDs B E w v xs) (h0 : 1 ≤ k0) (hk : k0 + sizeCasDs xs ≤ 1000000000) :
    Calls Try.prog 24 #[v, .int .i64 k0] w fun e w' => e = .returned (.int .i64 (k0 + sizeCasDs xs)) ∧ MkCasDs B E w' v xs k0 ∧ Touch B E w w' := by
  obtain ⟨k, rfl⟩ := Int.eq_ofNat_of_zero_le (show 0 ≤ k0 by omega)
  unfold sizeCasDs at hk ⊢
  obtain ⟨n, hn⟩ : ∃ n, n = xs.length := ⟨_, rfl⟩
  unfold OwnCasDs at h
  rw [← hn] at h hk ⊢
  obtain ⟨cs, hcs⟩ : ∃ cs, cs = xs.flatMap CasD.cells := ⟨_, rfl⟩
  rw [← hcs] at h
  clear hn hcs
  have hm1000 : n ≤ 1000000000 := by omega
  rcases id h.1 with ⟨hl, ⟨rfl, rfl⟩ | ⟨g, cap, cur, rfl, hbase, hg, hn, hc, hs, ht⟩⟩
  · go_enter Try.func24, Try.ntmps24
    go_wp2
    refine wp_loop_rounds 1 ?_
    rw [rounds_succ]
    go_wp2
    go_ret
    exact ⟨by simp, trivial, Touch.refl _ _ _⟩
  · have hgE := h.2 g rfl
    have hgB := (h.1.lt g rfl).1
    clear hg ht hs hn hc hl
    go_enter Try.func24, Try.ntmps24
    go_wp2
    go_loopw [1, 5] (fun q i wr => ∃ (t : Nat) (cs' : List Value), t ≤ n ∧ i = .int .i64 (t : Int) ∧ q = .int .i64 ↑(k + t * 5) ∧ wr.ownsRow B 41 5 (.slice (some ⟨g, 0, none⟩) n cap) n cs' ∧ Touch B E w wr) (fun _ i _ => n - (intOf i).toNat)
    case atStart => exact ⟨0, cs, Nat.zero_le _, by go_num, by simp, h.1, Touch.refl _ _ _⟩
    case round =>
      obtain ⟨t, cs', ht, rfl, rfl, hw, hT⟩ := hrel
      by_cases hlt : t < n
      · have HW := Lib.hid hw
        have HT := Lib.hid hT
        clear hw hT
        go_wp2_with fail
        refine (markText_any (k + t * 5) _ (by omega) (by omega)).mono ?_
        rintro e w1 ⟨rfl, hb1⟩
        have hw := owns_mono HW.out hb1
        have hlen := hw.1
        have HT1 := Lib.hid (HT.out.trans (show Touch B E wr w1 from ⟨hb1.os, hb1.tape, hb1.output, hb1.size, fun k hk _ => hb1.block k hk⟩))

        have d0 : w1.cell? ⟨g, t * 5, none⟩ = some (cs'.getD (t * 5) .nilFunc) := by rw [hw.cellAt _ (by omega), List.getD_eq_getElem?_getD, List.getElem?_eq_getElem (by omega)]; rfl
        have f0 := hw.frozenAt (t * 5)
        have d1 : w1.cell? ⟨g, t * 5 + 1, none⟩ = some (cs'.getD (t * 5 + 1) .nilFunc) := by rw [hw.cellAt _ (by omega), List.getD_eq_getElem?_getD, List.getElem?_eq_getElem (by omega)]; rfl
        have f1 := hw.frozenAt (t * 5 + 1)
        have d2 : w1.cell? ⟨g, t * 5 + 2, none⟩ = some (cs'.getD (t * 5 + 2) .nilFunc) := by rw [hw.cellAt _ (by omega), List.getD_eq_getElem?_getD, List.getElem?_eq_getElem (by omega)]; rfl
        have f2 := hw.frozenAt (t * 5 + 2)
        have d3 : w1.cell? ⟨g, t * 5 + 3, none⟩ = some (cs'.getD (t * 5 + 3) .nilFunc) := by rw [hw.cellAt _ (by omega), List.getD_eq_getElem?_getD, List.getElem?_eq_getElem (by omega)]; rfl
        have f3 := hw.frozenAt (t * 5 + 3)
        have d4 : w1.cell? ⟨g, t * 5 + 4, none⟩ = some (cs'.getD (t * 5 + 4) .nilFunc) := by rw [hw.cellAt _ (by omega), List.getD_eq_getElem?_getD, List.getElem?_eq_getElem (by omega)]; rfl
        have f4 := hw.frozenAt (t * 5 + 4)
        have HW1 := Lib.hid hw
        clear hw hlen hb1
        go_wp2
        have q0 := HW1.out
        have q1 := (q0).stored (t * 5) (.string (mkT (k + t * 5)))
        have q2 := (q1.1).stored (t * 5 + 1) (.int .i64 ((k : Int) + (t : Int) * 5 + 1))
        have q3 := (q2.1).stored (t * 5 + 2) (.int .i64 ((k : Int) + (t : Int) * 5 + 1 + 1))
        have q4 := (q3.1).stored (t * 5 + 3) (.int .i64 ((k : Int) + (t : Int) * 5 + 1 + 1 + 1))
        have q5 := (q4.1).stored (t * 5 + 4) (.int .i64 ((k : Int) + (t : Int) * 5 + 1 + 1 + 1 + 1))
        exact ⟨⟨t + 1, _, by omega, by go_num, by go_num, q5.1, (Touch.setCell (Touch.setCell (Touch.setCell (Touch.setCell (Touch.setCell HT1.out ⟨hgB, hgE⟩ _) ⟨hgB, hgE⟩ _) ⟨hgB, hgE⟩ _) ⟨hgB, hgE⟩ _) ⟨hgB, hgE⟩ _)⟩, by simp [intOf]; omega⟩
      · obtain rfl : t = n := by omega
        go_wp2
        go_ret
        exact ⟨by simp, trivial, hT⟩

end Go.Proofs.Yteaijhmgfddjiaa
