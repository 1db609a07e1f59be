/- Words and contracts of the laws' helpers over a slice of slices of numbers: size, equality, copy. -/
import Derived.Test.YtgdfecnpkjnhnaaDoorApp
import Derived.Test.YtgdfecnpkjnhnaaDoorKIntsEq
import Derived.Test.YtgdfecnpkjnhnaaDoorKIntsTo
set_option linter.unusedSimpArgs false
set_option linter.unnecessarySimpa false
set_option linter.unusedVariables false
set_option maxRecDepth 100000
namespace Go.Proofs.YtgdfecnpkjnhnaaDoor
open Go.RowKit

/-- A row of rows: each one's slice value beside the numbers that it reads as. -/
def RdIntss (w : World) (v : Value) (xs : List (List Int)) : Prop := ∃ ys : List (Value × List Int), ys.map Prod.snd = xs ∧ Sl w v ys.length (ys.map Prod.fst) ∧ ∀ y ∈ ys, Ints w y.1 y.2
def okIntss (xs : List (List Int)) : Prop := ∀ x ∈ xs, ∀ n ∈ x, I64 n

section
variable {w w' : World} {v : Value} {xs : List (List Int)}
theorem RdIntss.mono (h : RdIntss w v xs) (hb : Below w.heap.size w w') : RdIntss w' v xs := by
  obtain ⟨ys, e, h1, h2⟩ := h
  exact ⟨ys, e, h1.mono hb, fun y hy => (h2 y hy).mono hb⟩
theorem RdIntss.form' (h : RdIntss w v xs) : ∃ a cap, v = .slice a xs.length cap ∧ xs.length ≤ cap ∧ xs.length ≤ maxLen := by
  obtain ⟨ys, rfl, ⟨a, cap, rfl, h1, h2, _⟩, _⟩ := h
  exact ⟨a, cap, by simp, by simp; omega, by simp; omega⟩
theorem RdIntss.form (h : RdIntss w v xs) : ∃ a cap, v = .slice a xs.length cap := by
  obtain ⟨a, cap, e, _⟩ := h.form'
  exact ⟨a, cap, e⟩
theorem RdIntss.at {a : Option Addr} {cap k : Nat} (h : RdIntss w (.slice a xs.length cap) xs) (hk : k < xs.length) :
    ∃ b off lv ca, a = some ⟨b, off, none⟩ ∧ b < w.heap.size ∧ w.cell? ⟨b, off + k, none⟩ = some (.slice lv xs[k].length ca) ∧ Ints w (.slice lv xs[k].length ca) xs[k] := by
  obtain ⟨ys, rfl, h1, h2⟩ := h
  have hk' : k < ys.length := by simpa using hk
  rw [List.length_map] at h1
  obtain ⟨b, off, rfl, hc⟩ := Sl.cells h1 (by simp; omega)
  have h0 := hc k ys[k].1 (by simp [hk'])
  have hi := h2 ys[k] (List.getElem_mem hk')
  obtain ⟨lv, ca, e, _⟩ := id hi
  refine ⟨b, off, lv, ca, rfl, World.block_lt_of_cell? w _ h0, ?_, ?_⟩
  · rw [h0, e]; simp
  · rw [e] at hi; simpa using hi
theorem RdIntss.take {a : Option Addr} {cap k : Nat} (h : RdIntss w (.slice a xs.length cap) xs) (hk : k ≤ xs.length) : RdIntss w (.slice a k cap) (xs.take k) := by
  obtain ⟨ys, rfl, ⟨a', c', e, h1, h2, h3⟩, h4⟩ := h
  simp only [Value.slice.injEq] at e
  obtain ⟨rfl, _, rfl⟩ := e
  rw [List.length_map] at hk
  refine ⟨ys.take k, by rw [List.map_take], ⟨_, _, by rw [List.length_take, Nat.min_eq_left hk], by rw [List.length_take]; omega, h2, fun j u hu => h3 j u ?_⟩, fun y hy => h4 y (List.mem_of_mem_take hy)⟩
  rw [List.map_take, List.getElem?_take] at hu
  split at hu
  · exact hu
  · cases hu
end

/-- How many numbers the first k rows have. -/
def lenSum (xs : List (List Int)) : Nat → Nat
  | 0 => 0
  | k + 1 => lenSum xs k + (xs[k]?.map List.length).getD 0
theorem lenSum_step {xs : List (List Int)} {k : Nat} (h : k < xs.length) : lenSum xs (k + 1) = lenSum xs k + xs[k].length := by simp [lenSum, h]
theorem lenSum_mono (xs : List (List Int)) (k j : Nat) : lenSum xs k ≤ lenSum xs (k + j) := by
  induction j with
  | zero => exact Nat.le_refl _
  | succ j ih => exact Nat.le_trans ih (by rw [← Nat.add_assoc]; simp [lenSum])
theorem lenSum_le {xs : List (List Int)} {k : Nat} (h : k ≤ xs.length) : lenSum xs k ≤ lenSum xs xs.length := by
  have := lenSum_mono xs k (xs.length - k)
  rwa [show k + (xs.length - k) = xs.length by omega] at this
/-- The size of rows, as the laws count it. -/
def szIntss (xs : List (List Int)) : Nat := xs.length + lenSum xs xs.length
theorem szIntss_at {xs : List (List Int)} {k : Nat} (h : k < xs.length) : xs[k].length ≤ szIntss xs := by
  have := lenSum_le (xs := xs) (k := k + 1) (by omega)
  rw [lenSum_step h] at this
  unfold szIntss; omega
theorem szIntss_len (xs : List (List Int)) : xs.length ≤ szIntss xs := by unfold szIntss; omega

set_option maxHeartbeats 1000000 in
theorem eqIntss_any (v1 v2 : Value) (xs ys : List (List Int)) (w : World) (h1 : RdIntss w v1 xs) (h2 : RdIntss w v2 ys) :
    Calls Tryd.prog 19 #[v1, v2] w fun e w' => e = .returned (.bool (decide (xs = ys))) ∧ Below w.heap.size w w' := by
  obtain ⟨a, ca, rfl, _, hm⟩ := h1.form'
  obtain ⟨b, cb, rfl, _, hm2⟩ := h2.form'
  unfold maxLen at hm hm2
  by_cases hl : xs.length = ys.length
  · have b5 : ((xs.length : Int) != (ys.length : Int)) = false := by rw [hl]; simp
    have HL := Lib.hid hl; clear hl
    go_enter Tryd.func19, Tryd.ntmps19
    go_wp2
    go_loopw [5] (fun i wr => ∃ k : Nat, k ≤ xs.length ∧ i = .int .i64 k ∧ xs.take k = ys.take k ∧ Below w.heap.size w wr) (fun i _ => xs.length - (intOf i).toNat)
    case atStart => exact ⟨0, Nat.zero_le _, rfl, by simp, Below.refl _ _⟩
    case round =>
      obtain ⟨k, hk, rfl, ht, hb⟩ := hrel
      have HT := Lib.hid ht; clear ht
      by_cases hlt : k < xs.length
      · have hk2 : k < ys.length := by rw [← HL.out]; exact hlt
        obtain ⟨b3, o3, l3, q3, rfl, hB3, u0, uv⟩ := (h1.mono hb).at hlt
        obtain ⟨b4, o4, l4, q4, rfl, hB4, z0, zv⟩ := (h2.mono hb).at hk2
        go_wp2_with fail
        refine wp_region_ord [(0, true), (1, true), (2, true), (3, true), (4, true), (5, true), (6, true), (7, true), (8, false), (9, true)] (none) (by kernel_rfl) (by kernel_rfl) ?_
        (repeat (with_reducible refine wpOrd_soft (fun K hK => ?_); simp only [List.getElem?_toArray, List.getElem?_cons_zero, List.getElem?_cons_succ]; first | (go_simp; refine hK _ ?_) | (simp only [undef]; go_simp; refine hK _ ?_); clear hK K))
        (with_reducible refine wpOrd_hard ?_; simp only [List.getElem?_toArray, List.getElem?_cons_zero, List.getElem?_cons_succ])
        go_wp2_with fail
        refine (eqInts_any _ _ xs[k] ys[k] _ (uv.mono (by (repeat (first | with_reducible exact Below.refl _ _ | with_reducible exact hbw | (with_reducible refine Below.setCell ?_ ?_ _; rotate_left; · first | exact Nat.le_refl _ | omega | (simp; done) | (simp; omega)) | (with_reducible refine Below.alloc ?_ ?_ _; rotate_left; · first | exact Nat.le_refl _ | omega | (simp; done) | (simp; omega)) | with_reducible refine below_drewN ?_ _ | with_reducible refine Below.drew ?_)))) (zv.mono (by (repeat (first | with_reducible exact Below.refl _ _ | with_reducible exact hbw | (with_reducible refine Below.setCell ?_ ?_ _; rotate_left; · first | exact Nat.le_refl _ | omega | (simp; done) | (simp; omega)) | (with_reducible refine Below.alloc ?_ ?_ _; rotate_left; · first | exact Nat.le_refl _ | omega | (simp; done) | (simp; omega)) | with_reducible refine below_drewN ?_ _ | with_reducible refine Below.drew ?_))))).mono ?_
        rintro e w2 ⟨rfl, hq2⟩
        have hb3 := undrew (hq2.below wr.heap.size)
        clear hq2
        go_wp2_with fail
        refine ⟨grown_of_below hb3, ?_⟩
        by_cases g : xs[k] = ys[k]
        · have d : decide (xs[k] = ys[k]) = true := by simpa using g
          have G := Lib.hid g; clear g
          (repeat (with_reducible refine wpOrd_soft (fun K hK => ?_); simp only [List.getElem?_toArray, List.getElem?_cons_zero, List.getElem?_cons_succ]; first | (go_simp; refine hK _ ?_) | (simp only [undef]; go_simp; refine hK _ ?_); clear hK K))
          (with_reducible refine wpOrd_nil ?_); refine NoPanic.normal ?_
          go_wp2
          go_roundw
          case rel => exact ⟨k + 1, by omega, by go_num, take_step hlt hk2 HT.out (by simpa using G.out), hb.trans (hb3.mono hb.size)⟩
          case measure => simp [intOf] <;> omega
        · have d : decide (xs[k] = ys[k]) = false := by simpa using g
          have G := Lib.hid (show ¬ xs = ys from ne_of_get hlt hk2 (by simpa using g)); clear g
          (repeat (with_reducible refine wpOrd_soft (fun K hK => ?_); simp only [List.getElem?_toArray, List.getElem?_cons_zero, List.getElem?_cons_succ]; first | (go_simp; refine hK _ ?_) | (simp only [undef]; go_simp; refine hK _ ?_); clear hK K))
          (with_reducible refine wpOrd_nil ?_); refine NoPanic.normal ?_
          go_wp2
          go_ret
          exact ⟨ret_bool (by simpa using G.out), hb.trans (hb3.mono hb.size)⟩
      · go_wp2
        go_ret
        exact ⟨ret_bool (by simpa using eq_of_take HL.out hlt HT.out), hb⟩
  · have b5 : ((xs.length : Int) != (ys.length : Int)) = true := by simp; omega
    have EX := Lib.hid hl; clear hl
    go_enter Tryd.func19, Tryd.ntmps19
    go_wp2
    go_ret
    exact ⟨ret_bool (by simpa using fun h => EX.out (by rw [h])), Below.refl _ _⟩

theorem eqIntssK (v1 v2 : Value) (x : List (List Int)) (w : World) (h1 : RdIntss w v1 x) (h2 : RdIntss w v2 x) :
    Calls Tryd.prog 19 #[v1, v2] w fun e w' => e = .returned (.bool true) ∧ Below w.heap.size w w' :=
  (eqIntss_any v1 v2 x x w h1 h2).mono fun e w' ⟨he, hb⟩ => ⟨by rw [he]; simp, hb⟩

end Go.Proofs.YtgdfecnpkjnhnaaDoor
