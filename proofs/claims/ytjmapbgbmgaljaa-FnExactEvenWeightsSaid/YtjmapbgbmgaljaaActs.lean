/- Words and contracts of the laws' helpers over a slice of actions: size, copy, equality. -/
import Derived.Test.YtjmapbgbmgaljaaApp
import Derived.Test.YtjmapbgbmgaljaaOneAct
import Derived.Test.YtjmapbgbmgaljaaTouch
set_option linter.unusedSimpArgs false
set_option linter.unnecessarySimpa false
set_option linter.unusedVariables false
set_option maxRecDepth 100000
namespace Go.Proofs.Ytjmapbgbmgaljaa
open Go.RowKit

/-- An action as it lies in a row: its levers' slice value beside what it reads as. -/
def actCells (y : Value × ActD) : List Value := [.int .i64 y.2.note, y.1, .int .i64 y.2.slack, .int .i64 y.2.weight]
def RdActs (w : World) (v : Value) (xs : List ActD) : Prop := ∃ ys : List (Value × ActD), ys.map Prod.snd = xs ∧ Sl w v ys.length (ys.flatMap actCells) ∧ ∀ y ∈ ys, Levs w y.1 y.2.levs
def okActs (xs : List ActD) : Prop := ∀ x ∈ xs, x.ok

section
variable {w w' : World} {v : Value} {xs : List ActD}
theorem RdActs.mono (h : RdActs w v xs) (hb : Below w.heap.size w w') : RdActs w' v xs := by
  obtain ⟨ys, e, h1, h2⟩ := h
  exact ⟨ys, e, h1.mono hb, fun y hy => (h2 y hy).mono hb⟩
theorem RdActs.form' (h : RdActs w v xs) : ∃ a cap, v = .slice a xs.length cap ∧ xs.length ≤ maxLen := by
  obtain ⟨ys, rfl, ⟨a, cap, rfl, h1, h2, _⟩, _⟩ := h
  exact ⟨a, cap, by simp, by simp; omega⟩
theorem RdActs.form (h : RdActs w v xs) : ∃ a cap, v = .slice a xs.length cap := by
  obtain ⟨a, cap, e, _⟩ := h.form'
  exact ⟨a, cap, e⟩
theorem RdActs.at {a : Option Addr} {cap k : Nat} (h : RdActs w (.slice a xs.length cap) xs) (hk : k < xs.length) :
    ∃ b off lv, a = some ⟨b, off, none⟩ ∧ b < w.heap.size ∧ ActIn w b (off + k * 4) lv xs[k] := by
  obtain ⟨ys, rfl, h1, h2⟩ := h
  have hk' : k < ys.length := by simpa using hk
  have hl : (ys.flatMap actCells).length = ys.length * 4 := flat_len (f := actCells) (fun _ => rfl) ys
  rw [List.length_map] at h1
  obtain ⟨b, off, rfl, hc⟩ := Sl.cells h1 (by rw [hl]; omega)
  have g (j : Nat) (hj : j < 4) (u : Value) (hu : (actCells ys[k])[j]? = some u) := hc (k * 4 + j) u (flat_at (f := actCells) (m := 4) (fun _ => rfl) ys k j hk' hj hu)
  have h0 := g 0 (by omega) (.int .i64 ys[k].2.note) rfl
  have h3 := g 1 (by omega) ys[k].1 rfl
  have h4 := g 2 (by omega) (.int .i64 ys[k].2.slack) rfl
  have h5 := g 3 (by omega) (.int .i64 ys[k].2.weight) rfl
  refine ⟨b, off, ys[k].1, rfl, World.block_lt_of_cell? w _ h0, ?_, ?_, ?_, ?_, ?_⟩
  · simpa using h0
  · simpa [Nat.add_assoc] using h3
  · simpa [Nat.add_assoc] using h4
  · simpa [Nat.add_assoc] using h5
  · simpa using h2 ys[k] (List.getElem_mem hk')
theorem RdActs.at' {a : Option Addr} {cap k : Nat} (h : RdActs w (.slice a xs.length cap) xs) (hk : k < xs.length) :
    ∃ b off lv ca, a = some ⟨b, off, none⟩ ∧ b < w.heap.size ∧ ActIn w b (off + k * 4) (.slice lv xs[k].levs.length ca) xs[k] := by
  obtain ⟨b, off, lv, e, hb, h⟩ := h.at hk
  obtain ⟨a1, ca, rfl, _⟩ := id h.levs
  exact ⟨b, off, a1, ca, e, hb, h⟩
end

theorem ActIn.acc {w : World} {b off : Nat} {lv : Value} {x : ActD} (h : ActIn w b off lv x) : Acc w (.agg #[.int .i64 x.note, lv, .int .i64 x.slack, .int .i64 x.weight]) lv x := ⟨rfl, h.levs⟩

/-- How many levers the first k actions have. -/
def levSum (xs : List ActD) : Nat → Nat
  | 0 => 0
  | k + 1 => levSum xs k + (xs[k]?.map fun x => x.levs.length).getD 0
theorem levSum_step {xs : List ActD} {k : Nat} (h : k < xs.length) : levSum xs (k + 1) = levSum xs k + xs[k].levs.length := by simp [levSum, h]
theorem levSum_mono (xs : List ActD) (k j : Nat) : levSum xs k ≤ levSum xs (k + j) := by
  induction j with
  | zero => exact Nat.le_refl _
  | succ j ih => exact Nat.le_trans ih (by rw [← Nat.add_assoc]; simp [levSum])
theorem levSum_le {xs : List ActD} {k : Nat} (h : k ≤ xs.length) : levSum xs k ≤ levSum xs xs.length := by
  have := levSum_mono xs k (xs.length - k)
  rwa [show k + (xs.length - k) = xs.length by omega] at this
/-- The size of actions, as the laws count it. -/
def szActs (xs : List ActD) : Nat := xs.length + levSum xs xs.length
theorem szActs_at {xs : List ActD} {k : Nat} (h : k < xs.length) : xs[k].levs.length ≤ szActs xs := by
  have := levSum_le (xs := xs) (k := k + 1) (by omega)
  rw [levSum_step h] at this
  unfold szActs; omega
theorem szActs_len (xs : List ActD) : xs.length ≤ szActs xs := by unfold szActs; omega

set_option maxHeartbeats 1000000 in
theorem szActsY (v : Value) (x : List ActD) (left : Int) (w : World) (h : RdActs w v x) (_ : okActs x) (h0 : 0 ≤ left) (hl : left ≤ 1048576) (hs : szActs x ≤ left) :
    Calls Try.prog 22 #[v, .int .i64 left] w fun e w' => e = .returned (.int .i64 (left - szActs x)) ∧ Below w.heap.size w w' := by
  obtain ⟨a, ca, rfl, hm⟩ := h.form'
  unfold maxLen at hm
  have hsl := szActs_len x
  have e1 : ¬ left - (x.length : Int) < 0 := by omega
  go_enter Try.func22, Try.ntmps22
  go_wp2_with fail
  go_loopw [1, 5] (fun l i wr => ∃ k : Nat, k ≤ x.length ∧ i = .int .i64 k ∧ l = .int .i64 (left - x.length - levSum x k) ∧ Below w.heap.size w wr) (fun _ i _ => x.length - (intOf i).toNat)
  case atStart => exact ⟨0, Nat.zero_le _, rfl, by simp [levSum], Below.refl _ _⟩
  case round =>
    obtain ⟨k, hk, rfl, rfl, hb⟩ := hrel
    by_cases hlt : k < x.length
    · obtain ⟨b1, o1, lv, c1, rfl, hB, c0, c1, c2, c3, hv⟩ := (h.mono hb).at' hlt
      have s1 := levSum_step hlt
      have s2 := levSum_le (xs := x) (k := k + 1) (by omega)
      have s3 : szActs x = x.length + levSum x x.length := rfl
      have s4 : (levSum x (k + 1) : Int) ≤ left - x.length := by omega
      have S1 := Lib.hid s1
      have e2 : ¬ left - (x.length : Int) - (levSum x (k + 1) : Int) < 0 := by omega
      have E3 := Lib.hid (show left - (x.length : Int) - (levSum x k : Int) - (x[k].levs.length : Int) = left - x.length - levSum x (k + 1) by omega)
      have i1 : 0 ≤ left - (x.length : Int) - (levSum x k : Int) := by omega
      have i2 : ¬ left - (x.length : Int) - (levSum x k : Int) < x[k].levs.length := by omega
      clear s1 s2 s3 s4
      go_wp2_with fail
      refine (szAct_any _ _ x[k] _ _ ⟨rfl, hv⟩ i1 (by omega)).mono ?_
      rw [if_neg (by omega), E3.out]
      rintro e w2 ⟨rfl, hb2⟩
      go_wp2
      go_roundw
      case rel => exact ⟨k + 1, by omega, by go_num, rfl, hb.trans (hb2.mono hb.size)⟩
      case measure => simp [intOf] <;> omega
    · obtain rfl : k = x.length := by omega
      go_wp2
      go_ret
      exact ⟨ret_int (by unfold szActs; omega), hb⟩

set_option maxHeartbeats 1000000 in
theorem szActsN (v : Value) (x : List ActD) (left : Int) (w : World) (h : RdActs w v x) (_ : okActs x) (h0 : 0 ≤ left) (hl : left ≤ 1048576) (hs : left < szActs x) :
    Calls Try.prog 22 #[v, .int .i64 left] w fun e w' => e = .returned (.int .i64 (-1)) ∧ Below w.heap.size w w' := by
  obtain ⟨a, ca, rfl, hm⟩ := h.form'
  unfold maxLen at hm
  have HS := Lib.hid hs; clear hs
  by_cases g : left < x.length
  · have e1 : left - (x.length : Int) < 0 := by omega
    go_enter Try.func22, Try.ntmps22
    go_wp2
    go_ret
    exact ⟨rfl, Below.refl _ _⟩
  · have e1 : ¬ left - (x.length : Int) < 0 := by omega
    go_enter Try.func22, Try.ntmps22
    go_wp2_with fail
    go_loopw [1, 5] (fun l i wr => ∃ k : Nat, k ≤ x.length ∧ i = .int .i64 k ∧ l = .int .i64 (left - x.length - levSum x k) ∧ 0 ≤ left - x.length - levSum x k ∧ Below w.heap.size w wr) (fun _ i _ => x.length - (intOf i).toNat)
    case atStart => exact ⟨0, Nat.zero_le _, rfl, by simp [levSum], by simp [levSum]; omega, Below.refl _ _⟩
    case round =>
      obtain ⟨k, hk, rfl, rfl, hp, hb⟩ := hrel
      have hlt : k < x.length := by
        by_cases e : k < x.length
        · exact e
        · obtain rfl : k = x.length := by omega
          have := HS.out
          unfold szActs at this
          omega
      obtain ⟨b1, o1, lv, c1, rfl, hB, c0, c1, c2, c3, hv⟩ := (h.mono hb).at' hlt
      have S1 := Lib.hid (levSum_step hlt)
      by_cases g2 : left - (x.length : Int) - (levSum x k : Int) < x[k].levs.length
      · go_wp2_with fail
        refine (szAct_any _ _ x[k] _ _ ⟨rfl, hv⟩ hp (by omega)).mono ?_
        rw [if_pos g2]
        rintro e w2 ⟨rfl, hb2⟩
        go_wp2
        go_ret
        exact ⟨rfl, hb.trans (hb2.mono hb.size)⟩
      · have E3 := Lib.hid (show left - (x.length : Int) - (levSum x k : Int) - (x[k].levs.length : Int) = left - x.length - levSum x (k + 1) by rw [S1.out]; omega)
        have e2 : ¬ left - (x.length : Int) - (levSum x (k + 1) : Int) < 0 := by rw [S1.out]; omega
        go_wp2_with fail
        refine (szAct_any _ _ x[k] _ _ ⟨rfl, hv⟩ hp (by omega)).mono ?_
        rw [if_neg (by omega), E3.out]
        rintro e w2 ⟨rfl, hb2⟩
        go_wp2
        go_roundw
        case rel => exact ⟨k + 1, by omega, by go_num, rfl, by omega, hb.trans (hb2.mono hb.size)⟩
        case measure => simp [intOf] <;> omega

set_option maxHeartbeats 1000000 in
theorem eqActs_any (v1 v2 : Value) (xs ys : List ActD) (w : World) (h1 : RdActs w v1 xs) (h2 : RdActs w v2 ys) :
    Calls Try.prog 26 #[v1, v2] w fun e w' => e = .returned (.bool (decide (xs = ys))) ∧ Below w.heap.size w w' := by
  obtain ⟨a, ca, rfl, hm⟩ := h1.form'
  obtain ⟨b, cb, rfl, hm2⟩ := h2.form'
  unfold maxLen at hm hm2
  by_cases hl : xs.length = ys.length
  · have b5 : ((xs.length : Int) != (ys.length : Int)) = false := by rw [hl]; simp
    have HL := Lib.hid hl; clear hl
    go_enter Try.func26, Try.ntmps26
    go_wp2
    go_loopw [5] (fun i wr => ∃ k : Nat, k ≤ xs.length ∧ i = .int .i64 k ∧ xs.take k = ys.take k ∧ Below w.heap.size w wr) (fun i _ => xs.length - (intOf i).toNat)
    case atStart => exact ⟨0, Nat.zero_le _, rfl, by simp, Below.refl _ _⟩
    case round =>
      obtain ⟨k, hk, rfl, ht, hb⟩ := hrel
      have HT := Lib.hid ht; clear ht
      by_cases hlt : k < xs.length
      · have hk2 : k < ys.length := by rw [← HL.out]; exact hlt
        obtain ⟨b3, o3, l3, q3, rfl, hB3, u0, u1, u2, u3, uv⟩ := (h1.mono hb).at' hlt
        obtain ⟨b4, o4, l4, q4, rfl, hB4, z0, z1, z2, z3, zv⟩ := (h2.mono hb).at' hk2
        go_wp2_with fail
        refine wp_region_ord [(0, true), (1, true), (2, true), (3, true), (4, true), (5, true), (6, true), (7, true), (8, false), (9, true)] (none) (by kernel_rfl) (by kernel_rfl) ?_
        (repeat (with_reducible refine wpOrd_soft (fun K hK => ?_); simp only [List.getElem?_toArray, List.getElem?_cons_zero, List.getElem?_cons_succ]; first | (go_simp; refine hK _ ?_) | (simp only [undef]; go_simp; refine hK _ ?_); clear hK K))
        (with_reducible refine wpOrd_hard ?_; simp only [List.getElem?_toArray, List.getElem?_cons_zero, List.getElem?_cons_succ])
        go_wp2_with fail
        refine (eqAct_any _ _ _ _ xs[k] ys[k] _ ⟨rfl, uv.mono (by (repeat (first | with_reducible exact Below.refl _ _ | with_reducible exact hbw | (with_reducible refine Below.setCell ?_ ?_ _; rotate_left; · first | exact Nat.le_refl _ | omega | (simp; done) | (simp; omega)) | (with_reducible refine Below.alloc ?_ ?_ _; rotate_left; · first | exact Nat.le_refl _ | omega | (simp; done) | (simp; omega)) | with_reducible refine below_drewN ?_ _ | with_reducible refine Below.drew ?_)))⟩ ⟨rfl, zv.mono (by (repeat (first | with_reducible exact Below.refl _ _ | with_reducible exact hbw | (with_reducible refine Below.setCell ?_ ?_ _; rotate_left; · first | exact Nat.le_refl _ | omega | (simp; done) | (simp; omega)) | (with_reducible refine Below.alloc ?_ ?_ _; rotate_left; · first | exact Nat.le_refl _ | omega | (simp; done) | (simp; omega)) | with_reducible refine below_drewN ?_ _ | with_reducible refine Below.drew ?_)))⟩).mono ?_
        rintro e w2 ⟨rfl, hb2⟩
        have hb3 := undrew hb2
        go_wp2_with fail
        refine ⟨grown_of_below hb3, ?_⟩
        by_cases g : xs[k] = ys[k]
        · have d : decide (xs[k] = ys[k]) = true := by simpa using g
          have G := Lib.hid g; clear g
          (repeat (with_reducible refine wpOrd_soft (fun K hK => ?_); simp only [List.getElem?_toArray, List.getElem?_cons_zero, List.getElem?_cons_succ]; first | (go_simp; refine hK _ ?_) | (simp only [undef]; go_simp; refine hK _ ?_); clear hK K))
          (with_reducible refine wpOrd_nil ?_); refine NoPanic.normal ?_
          go_wp2
          go_roundw
          case rel => exact ⟨k + 1, by omega, by go_num, take_step hlt hk2 HT.out (by simpa using G.out), hb.trans (hb3.mono hb.size)⟩
          case measure => simp [intOf] <;> omega
        · have d : decide (xs[k] = ys[k]) = false := by simpa using g
          have G := Lib.hid (show ¬ xs = ys from ne_of_get hlt hk2 (by simpa using g)); clear g
          (repeat (with_reducible refine wpOrd_soft (fun K hK => ?_); simp only [List.getElem?_toArray, List.getElem?_cons_zero, List.getElem?_cons_succ]; first | (go_simp; refine hK _ ?_) | (simp only [undef]; go_simp; refine hK _ ?_); clear hK K))
          (with_reducible refine wpOrd_nil ?_); refine NoPanic.normal ?_
          go_wp2
          go_ret
          exact ⟨ret_bool (by simpa using G.out), hb.trans (hb3.mono hb.size)⟩
      · go_wp2
        go_ret
        exact ⟨ret_bool (by simpa using eq_of_take HL.out hlt HT.out), hb⟩
  · have b5 : ((xs.length : Int) != (ys.length : Int)) = true := by simp; omega
    have EX := Lib.hid hl; clear hl
    go_enter Try.func26, Try.ntmps26
    go_wp2
    go_ret
    exact ⟨ret_bool (by simpa using fun h => EX.out (by rw [h])), Below.refl _ _⟩

end Go.Proofs.Ytjmapbgbmgaljaa
