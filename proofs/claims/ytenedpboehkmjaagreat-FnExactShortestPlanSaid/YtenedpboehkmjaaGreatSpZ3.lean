import Derived.Test.YtenedpboehkmjaaGreatChecked
import Derived.Test.YtenedpboehkmjaaGreatSpZ1
import Derived.Deep.QuietTactic
import Derived.BigQuiet
/- Contracts of the laws' helpers over Ring and slices of it: copy, equality, size, marks. -/
set_option linter.unusedSimpArgs false
set_option linter.unnecessarySimpa false
set_option linter.unusedVariables false
namespace Go.Proofs.YtenedpboehkmjaaGreat
open Go.RowKit

structure Rng where
  outer : Int
  inner : Int
  height : Int
  deriving DecidableEq

def Rng.val (x : Rng) : Value := .agg #[.int .i64 x.outer, .int .i64 x.inner, .int .i64 x.height]
def Rng.cells (x : Rng) : List Value := [.int .i64 x.outer, .int .i64 x.inner, .int .i64 x.height]
def Rngs (w : World) (v : Value) (xs : List Rng) : Prop := Sl w v xs.length (xs.flatMap Rng.cells)
theorem Rng.ext_iff' (x y : Rng) : x = y ↔ x.outer = y.outer ∧ x.inner = y.inner ∧ x.height = y.height := by cases x; cases y; simp [Rng.mk.injEq]
theorem Rngs.mono {w w' : World} {v : Value} {xs : List Rng} (h : Rngs w v xs) (hb : Below w.heap.size w w') : Rngs w' v xs := Sl.mono h hb
theorem Rngs.q {w w' : World} {v : Value} {xs : List Rng} (h : Rngs w v xs) (hq : Q w w') : Rngs w' v xs := h.mono (hq.below _)
theorem Rngs.of_owns {w : World} {base : Nat} {e : TypeId} {v : Value} {xs : List Rng} (h : w.ownsRow base e 3 v xs.length (xs.flatMap Rng.cells)) : Rngs w v xs := Sl.of_owns h
theorem Rng.len_cells (xs : List Rng) : (xs.flatMap Rng.cells).length = xs.length * 3 := flat_len (f := Rng.cells) (fun _ => rfl) xs
theorem Rngs.at {w : World} {a : Option Addr} {cap : Nat} {xs : List Rng} {k : Nat} (h : Rngs w (.slice a xs.length cap) xs) (hk : k < xs.length) :
    ∃ b off, a = some ⟨b, off, none⟩ ∧ b < w.heap.size ∧ w.cell? ⟨b, off + k * 3, none⟩ = some (.int .i64 xs[k].outer) ∧ w.cell? ⟨b, off + k * 3 + 1, none⟩ = some (.int .i64 xs[k].inner) ∧ w.cell? ⟨b, off + k * 3 + 2, none⟩ = some (.int .i64 xs[k].height) := by
  obtain ⟨b, off, rfl, hc⟩ := Sl.cells h (by rw [Rng.len_cells]; omega)
  have h0 := hc (k * 3 + 0) _ (flat_at (f := Rng.cells) (m := 3) (fun _ => rfl) xs k 0 hk (by omega) (u := .int .i64 xs[k].outer) rfl)
  have h1 := hc (k * 3 + 1) _ (flat_at (f := Rng.cells) (m := 3) (fun _ => rfl) xs k 1 hk (by omega) (u := .int .i64 xs[k].inner) rfl)
  have h2 := hc (k * 3 + 2) _ (flat_at (f := Rng.cells) (m := 3) (fun _ => rfl) xs k 2 hk (by omega) (u := .int .i64 xs[k].height) rfl)
  exact ⟨b, off, rfl, World.block_lt_of_cell? w _ h0, by simpa [Nat.add_assoc] using h0, by simpa [Nat.add_assoc] using h1, by simpa [Nat.add_assoc] using h2⟩

theorem toRng_any (x : Rng) (w : World) :
    Calls Tryz.prog 47 #[.agg #[.int .i64 x.outer, .int .i64 x.inner, .int .i64 x.height]] w fun e w' => e = .returned (.agg #[.int .i64 x.outer, .int .i64 x.inner, .int .i64 x.height]) ∧ Below w.heap.size w w' := by
  go_enter Tryz.func47, Tryz.ntmps47
  go_wp2
  refine bodyPost_ret (v := .agg #[.int .i64 x.outer, .int .i64 x.inner, .int .i64 x.height]) (by simp [results, Tryz.results47, go_sem]) rfl ⟨rfl, ?_⟩
  (repeat (first | with_reducible exact Below.refl _ _ | with_reducible exact hbw | (with_reducible refine Below.setCell ?_ ?_ _; rotate_left; · first | exact Nat.le_refl _ | omega | (simp; done) | (simp; omega)) | (with_reducible refine Below.alloc ?_ ?_ _; rotate_left; · first | exact Nat.le_refl _ | omega | (simp; done) | (simp; omega)) | with_reducible refine below_drewN ?_ _ | with_reducible refine Below.drew ?_))

theorem eqRng_any (x y : Rng) (w : World) :
    Calls Tryz.prog 57 #[.agg #[.int .i64 x.outer, .int .i64 x.inner, .int .i64 x.height], .agg #[.int .i64 y.outer, .int .i64 y.inner, .int .i64 y.height]] w fun e w' => e = .returned (.bool (decide (x = y))) ∧ Below w.heap.size w w' := by
  by_cases h0 : x.outer = y.outer
  · skip
    by_cases h1 : x.inner = y.inner
    · skip
      by_cases h2 : x.height = y.height
      · skip
        have e_outer : (x.outer != y.outer) = false := by simpa using h0
        have e_inner : (x.inner != y.inner) = false := by simpa using h1
        have e_height : (x.height != y.height) = false := by simpa using h2
        have hd : decide (x = y) = true := by apply decide_eq_true; rw [Rng.ext_iff']; simp [*]
        have HD := Lib.hid hd; clear hd h0 h1 h2
        go_enter Tryz.func57, Tryz.ntmps57
        go_wp2
        go_ret
        refine ⟨by rw [HD.out]; rfl, ?_⟩
        (repeat (first | with_reducible exact Below.refl _ _ | with_reducible exact hbw | (with_reducible refine Below.setCell ?_ ?_ _; rotate_left; · first | exact Nat.le_refl _ | omega | (simp; done) | (simp; omega)) | (with_reducible refine Below.alloc ?_ ?_ _; rotate_left; · first | exact Nat.le_refl _ | omega | (simp; done) | (simp; omega)) | with_reducible refine below_drewN ?_ _ | with_reducible refine Below.drew ?_))
      · skip
        have e_outer : (x.outer != y.outer) = false := by simpa using h0
        have e_inner : (x.inner != y.inner) = false := by simpa using h1
        have e_height : (x.height != y.height) = true := by simpa using h2
        have hd : decide (x = y) = false := by apply decide_eq_false; rw [Rng.ext_iff']; simp [*]
        have HD := Lib.hid hd; clear hd h0 h1 h2
        go_enter Tryz.func57, Tryz.ntmps57
        go_wp2
        go_ret
        refine ⟨by rw [HD.out]; rfl, ?_⟩
        (repeat (first | with_reducible exact Below.refl _ _ | with_reducible exact hbw | (with_reducible refine Below.setCell ?_ ?_ _; rotate_left; · first | exact Nat.le_refl _ | omega | (simp; done) | (simp; omega)) | (with_reducible refine Below.alloc ?_ ?_ _; rotate_left; · first | exact Nat.le_refl _ | omega | (simp; done) | (simp; omega)) | with_reducible refine below_drewN ?_ _ | with_reducible refine Below.drew ?_))
    · skip
      have e_outer : (x.outer != y.outer) = false := by simpa using h0
      have e_inner : (x.inner != y.inner) = true := by simpa using h1
      have hd : decide (x = y) = false := by apply decide_eq_false; rw [Rng.ext_iff']; simp [*]
      have HD := Lib.hid hd; clear hd h0 h1
      go_enter Tryz.func57, Tryz.ntmps57
      go_wp2
      go_ret
      refine ⟨by rw [HD.out]; rfl, ?_⟩
      (repeat (first | with_reducible exact Below.refl _ _ | with_reducible exact hbw | (with_reducible refine Below.setCell ?_ ?_ _; rotate_left; · first | exact Nat.le_refl _ | omega | (simp; done) | (simp; omega)) | (with_reducible refine Below.alloc ?_ ?_ _; rotate_left; · first | exact Nat.le_refl _ | omega | (simp; done) | (simp; omega)) | with_reducible refine below_drewN ?_ _ | with_reducible refine Below.drew ?_))
  · skip
    have e_outer : (x.outer != y.outer) = true := by simpa using h0
    have hd : decide (x = y) = false := by apply decide_eq_false; rw [Rng.ext_iff']; simp [*]
    have HD := Lib.hid hd; clear hd h0
    go_enter Tryz.func57, Tryz.ntmps57
    go_wp2
    go_ret
    refine ⟨by rw [HD.out]; rfl, ?_⟩
    (repeat (first | with_reducible exact Below.refl _ _ | with_reducible exact hbw | (with_reducible refine Below.setCell ?_ ?_ _; rotate_left; · first | exact Nat.le_refl _ | omega | (simp; done) | (simp; omega)) | (with_reducible refine Below.alloc ?_ ?_ _; rotate_left; · first | exact Nat.le_refl _ | omega | (simp; done) | (simp; omega)) | with_reducible refine below_drewN ?_ _ | with_reducible refine Below.drew ?_))

theorem szRngs_any (v : Value) (xs : List Rng) (n : Nat) (left : Int) (w : World) (h1 : ∃ a cap, v = .slice a n cap) (h0 : 0 ≤ left) (hl : left ≤ 1048576) (hn : n ≤ maxLen) :
    Calls Tryz.prog 20 #[v, .int .i64 left] w fun e w' => e = .returned (.int .i64 (if left < n then -1 else left - n)) ∧ w' = w := by
  obtain ⟨a, cap, rfl⟩ := h1
  unfold maxLen at hn
  by_cases hc : left < n
  · have h2 : left - (n : Int) < 0 := by omega
    have hd : (if left < (n : Int) then (-1 : Int) else left - n) = -1 := if_pos hc
    have HD := Lib.hid hd; clear hd
    go_enter Tryz.func20, Tryz.ntmps20
    go_wp2
    go_ret
    exact ⟨by first | rfl | (rw [HD.out]; rfl), rfl⟩
  · have h2 : ¬ left - (n : Int) < 0 := by omega
    have hd : (if left < (n : Int) then (-1 : Int) else left - n) = left - n := if_neg hc
    have HD := Lib.hid hd; clear hd
    go_enter Tryz.func20, Tryz.ntmps20
    go_wp2
    go_ret
    exact ⟨by first | rfl | (rw [HD.out]; rfl), rfl⟩

theorem info_Ring : (Tryz.prog.info? 96).map (fun i => (i.zero, i.size, i.bytes)) = some (some (.agg #[.int .i64 0, .int .i64 0, .int .i64 0]), 3, 24) := by kernel_rfl

/-- The cells of a copy, k elements of it filled. -/
def partRng (xs : List Rng) (k : Nat) : List Value := (xs.take k).flatMap Rng.cells ++ List.replicate ((xs.length - k) * 3) (.int .i64 0)
theorem partRng_zero (xs : List Rng) : partRng xs 0 = List.replicate (xs.length * 3) (.int .i64 0) := by simp [partRng]
theorem partRng_all (xs : List Rng) (k : Nat) (h : ¬ k < xs.length) : partRng xs k = xs.flatMap Rng.cells := by simp [partRng, List.take_of_length_le (show xs.length ≤ k by omega), show xs.length - k = 0 by omega]
theorem partRng_open (xs : List Rng) (k : Nat) (h : k < xs.length) : partRng xs k = (xs.take k).flatMap Rng.cells ++ (.int .i64 0 :: .int .i64 0 :: .int .i64 0 :: List.replicate ((xs.length - (k + 1)) * 3) (.int .i64 0)) := by
  unfold partRng; rw [show (xs.length - k) * 3 = (xs.length - (k + 1)) * 3 + 3 by omega]; simp [List.replicate_succ]
theorem partRng_step (xs : List Rng) (k : Nat) (h : k < xs.length) : partRng xs (k + 1) = (xs.take k).flatMap Rng.cells ++ (.int .i64 xs[k].outer :: .int .i64 xs[k].inner :: .int .i64 xs[k].height :: List.replicate ((xs.length - (k + 1)) * 3) (.int .i64 0)) := by
  unfold partRng; rw [List.take_succ_eq_append_getElem h]; simp only [List.flatMap_append, List.flatMap_cons, List.flatMap_nil, List.append_nil, List.append_assoc, Rng.cells, List.cons_append, List.nil_append]
theorem partRng_len (xs : List Rng) (k : Nat) (h : k ≤ xs.length) : ((xs.take k).flatMap Rng.cells).length = k * 3 := by rw [Rng.len_cells, List.length_take, Nat.min_eq_left h]

set_option maxHeartbeats 400000 in
theorem toRngs_any (v1 : Value) (xs : List Rng) (w : World) (h1 : Rngs w v1 xs) (hs : xs.length ≤ 1048576) :
    Calls Tryz.prog 26 #[v1] w fun e w' => ∃ v, e = .returned v ∧ w'.ownsRow w.heap.size 96 3 v xs.length (xs.flatMap Rng.cells) ∧ Below w.heap.size w w' := by
  obtain ⟨a, ca, rfl, _, _, _⟩ := id h1
  obtain ⟨i0, hi, hz0, hz1, hz2⟩ := info_parts info_Ring
  have HS := Lib.hid hs; clear hs
  go_enter Tryz.func26, Tryz.ntmps26
  go_wp2_with (at_make; refine wpList_make_full _ rfl _ _ 40 rfl w.heap.size 96 i0 _ 3 Tryz.underlying40 hi hz0 hz1 _ _ _ _ xs.length rfl rfl rfl rfl (by rw [hz2]; have := HS.out; omega) (by have := HS.out; unfold maxLen; omega) (Nat.le_refl _) ?_)
  intro w1 hown hgrow
  have hb1 : Below w.heap.size w w1 := (Below.refl _ _).grown hgrow (Nat.le_refl _) (by simp)
  go_wp2
  go_loopw [4] (fun i wr => ∃ k : Nat, k ≤ xs.length ∧ i = .int .i64 k ∧ wr.ownsRow w.heap.size 96 3 (.slice (some ⟨w.heap.size, 0, none⟩) xs.length xs.length) xs.length (partRng xs k) ∧ Below w.heap.size w wr) (fun i _ => xs.length - (intOf i).toNat)
  case atStart => exact ⟨0, Nat.zero_le _, rfl, by rw [partRng_zero]; simpa [made_rep3, Value.cells] using hown, hb1⟩
  case round =>
    obtain ⟨k, hk, rfl, ho, hb⟩ := hrel
    clear hown hgrow hb1
    by_cases hlt : k < xs.length
    · obtain ⟨b1, o1, rfl, hB, c0, c1, c2⟩ := (h1.mono hb).at hlt
      have hm : xs.length ≤ 1048576 := HS.out
      go_wp2_with fail
      refine (toRng_any xs[k] _).mono ?_
      rintro e w2 ⟨rfl, hb2⟩
      have ho2 := owns_mono ho hb2
      have hop := partRng_open xs k hlt
      have hpl := partRng_len xs k hk

      have d0 : w2.cell? ⟨w.heap.size, k * 3, none⟩ = some (.int .i64 0) := by rw [ho2.cellAt _ (by omega), hop, List.getElem?_append_right (by omega), hpl]; simp
      have f0 := ho2.frozenAt (k * 3)
      have d1 : w2.cell? ⟨w.heap.size, k * 3 + 1, none⟩ = some (.int .i64 0) := by rw [ho2.cellAt _ (by omega), hop, List.getElem?_append_right (by omega), hpl]; simp
      have f1 := ho2.frozenAt (k * 3 + 1)
      have d2 : w2.cell? ⟨w.heap.size, k * 3 + 2, none⟩ = some (.int .i64 0) := by rw [ho2.cellAt _ (by omega), hop, List.getElem?_append_right (by omega), hpl]; simp
      have f2 := ho2.frozenAt (k * 3 + 2)
      have HP := Lib.hid hop; have HL := Lib.hid hpl; have HO := Lib.hid ho2; clear hop hpl ho2 ho
      go_wp2
      have e := HO.out
      rw [HP.out] at e
      have e' := stored3 (A := (xs.take k).flatMap Rng.cells) e HL.out (.int .i64 xs[k].outer) (.int .i64 xs[k].inner) (.int .i64 xs[k].height)
      rw [← partRng_step xs k hlt] at e'
      exact ⟨⟨k + 1, by omega, by go_num, e'.1, (hb.trans (hb2.mono hb.size)).grown e'.2 (by have := hb.size; have := hb2.size; omega) (by intro k hk; cases hk; exact Nat.le_refl _)⟩, by simp [intOf]; omega⟩
    · go_wp2
      go_ret
      exact ⟨_, rfl, by rw [← partRng_all xs k hlt]; exact ho, hb⟩

end Go.Proofs.YtenedpboehkmjaaGreat
/- Contracts of the laws' helpers over slices of Ring: equality, marks; slices.Equal. -/
set_option linter.unusedSimpArgs false
set_option linter.unnecessarySimpa false
set_option linter.unusedVariables false
namespace Go.Proofs.YtenedpboehkmjaaGreat
open Go.RowKit

set_option maxHeartbeats 400000 in
theorem eqRngs_any (v1 v2 : Value) (xs ys : List Rng) (w : World) (h1 : Rngs w v1 xs) (h2 : Rngs w v2 ys) :
    Calls Tryz.prog 37 #[v1, v2] w fun e w' => e = .returned (.bool (decide (xs = ys))) ∧ Below w.heap.size w w' := by
  obtain ⟨a, ca, rfl, hca, hcm, _⟩ := id h1
  obtain ⟨b, cb, rfl, _, _, _⟩ := id h2
  by_cases hl : xs.length = ys.length
  · have hm : xs.length ≤ maxLen := by omega
    clear hca hcm
    unfold maxLen at hm
    have hl1 : ((xs.length : Int) != (ys.length : Int)) = false := by rw [hl]; simp
    have HL := Lib.hid hl; clear hl
    go_enter Tryz.func37, Tryz.ntmps37
    go_wp2
    go_loopw [5] (fun i wr => ∃ k : Nat, k ≤ xs.length ∧ i = .int .i64 k ∧ xs.take k = ys.take k ∧ Below w.heap.size w wr) (fun i _ => xs.length - (intOf i).toNat)
    case atStart => exact ⟨0, Nat.zero_le _, rfl, by simp, Below.refl _ _⟩
    case round =>
      obtain ⟨k, hk, rfl, ht, hb⟩ := hrel
      have HT := Lib.hid ht; clear ht
      by_cases hlt : k < xs.length
      · have hk2 : k < ys.length := by rw [← HL.out]; exact hlt
        obtain ⟨b1, o1, rfl, hB1, c0, c1, c2⟩ := (h1.mono hb).at hlt
        obtain ⟨b2, o2, rfl, hB2, d0, d1, d2⟩ := (h2.mono hb).at hk2

        go_wp2
        refine wp_region_ord [(0, true), (1, true), (2, true), (3, true), (4, true), (5, true), (6, true), (7, true), (8, false), (9, true)] (none) (by kernel_rfl) (by kernel_rfl) ?_
        (repeat (with_reducible refine wpOrd_soft (fun K hK => ?_); simp only [List.getElem?_toArray, List.getElem?_cons_zero, List.getElem?_cons_succ]; first | (go_simp; refine hK _ ?_) | (simp only [undef]; go_simp; refine hK _ ?_); clear hK K))
        (with_reducible refine wpOrd_hard ?_; simp only [List.getElem?_toArray, List.getElem?_cons_zero, List.getElem?_cons_succ])
        go_wp2_with fail
        refine (eqRng_any xs[k] ys[k] _).mono ?_
        rintro e w2 ⟨rfl, hb2⟩
        have hbr : Below wr.heap.size wr w2 := undrew hb2
        have hb3 : Below w.heap.size w w2 := hb.trans (hbr.mono hb.size)
        by_cases he : xs[k] = ys[k]
        rotate_left
        all_goals
          have HE := Lib.hid he
          first | have hd : decide (xs[k] = ys[k]) = false := by simpa using he
                | have hd : decide (xs[k] = ys[k]) = true := by simpa using he
          clear he
          go_wp2
          refine ⟨grown_of_below hbr, ?_⟩
          (repeat (with_reducible refine wpOrd_soft (fun K hK => ?_); simp only [List.getElem?_toArray, List.getElem?_cons_zero, List.getElem?_cons_succ]; first | (go_simp; refine hK _ ?_) | (simp only [undef]; go_simp; refine hK _ ?_); clear hK K))
          (with_reducible refine wpOrd_nil ?_); refine NoPanic.normal ?_
        · go_wp2
          go_ret
          exact ⟨ret_bool (by simpa using ne_of_get hlt hk2 (by simpa using HE.out)), hb3⟩
        · go_wp2
          go_roundw
          case rel => exact ⟨k + 1, by omega, by go_num, take_step hlt hk2 HT.out (by simpa using HE.out), hb3⟩
          case measure => simp [intOf]; omega
      · go_wp2
        go_ret
        exact ⟨ret_bool (by simpa using eq_of_take HL.out hlt HT.out), hb⟩
  · have hl1 : ((xs.length : Int) != (ys.length : Int)) = true := by simp; omega
    have hne : xs ≠ ys := fun e => hl (by rw [e])
    clear hl
    go_enter Tryz.func37, Tryz.ntmps37
    go_wp2
    go_ret
    exact ⟨ret_bool (by simpa using hne), Below.refl _ _⟩

set_option maxHeartbeats 400000 in
theorem markRngs_any (v : Value) (n base : Nat) (te : TypeId) (cs : List Value) (k : Nat) (w : World) (ho : w.ownsRow base te 3 v n cs) (hk : k + 3 * n ≤ 1000000000) :
    Calls Tryz.prog 40 #[v, .int .i64 k] w fun e w' => e = .returned (.int .i64 ↑(k + n * 3)) ∧ w'.ownsRow base te 3 v n (marks k (n * 3)) ∧ w.grownBy w' v.ownBlock := by
  rcases id ho with ⟨hl, ⟨rfl, rfl⟩ | ⟨g, cap, cur, rfl, hbase, hg, hn, hc, hs, ht⟩⟩
  · have hcs : cs = [] := by simpa using hl
    subst hcs
    go_enter Tryz.func40, Tryz.ntmps40
    go_wp2
    refine wp_loop_rounds 1 ?_
    rw [rounds_succ]
    go_wp2
    go_ret
    exact ⟨by simp, by simpa [marks] using ho, World.grownBy.refl _ _⟩
  · clear hg ht hs
    unfold maxLen at hc
    have HL := Lib.hid hl; clear hl
    go_enter Tryz.func40, Tryz.ntmps40
    go_wp2
    go_loopw [1, 5] (fun q i wr => ∃ t : Nat, t ≤ n ∧ i = .int .i64 t ∧ q = .int .i64 ↑(k + t * 3) ∧ wr.ownsRow base te 3 (.slice (some ⟨g, 0, none⟩) n cap) n (marks k (t * 3) ++ cs.drop (t * 3)) ∧ w.grownBy wr (some g)) (fun _ i _ => n - (intOf i).toNat)
    case atStart => exact ⟨0, Nat.zero_le _, rfl, by simp, by simpa [marks] using ho, World.grownBy.refl _ _⟩
    case round =>
      obtain ⟨t, ht, rfl, rfl, hw, hg⟩ := hrel
      by_cases hlt : t < n
      · have hlen := HL.out
        have x0 : (marks k (t * 3) ++ cs.drop (t * 3))[t * 3]? = some (cs.getD (t * 3 + 0) .nilFunc) := marks_at _ _ _ 0 (by rw [hlen]; omega)
        have d0 : wr.cell? ⟨g, t * 3, none⟩ = some (cs.getD (t * 3 + 0) .nilFunc) := by rw [hw.cellAt _ (by omega)]; exact x0
        have f0 := hw.frozenAt (t * 3)
        have x1 : (marks k (t * 3) ++ cs.drop (t * 3))[t * 3 + 1]? = some (cs.getD (t * 3 + 1) .nilFunc) := marks_at _ _ _ 1 (by rw [hlen]; omega)
        have d1 : wr.cell? ⟨g, t * 3 + 1, none⟩ = some (cs.getD (t * 3 + 1) .nilFunc) := by rw [hw.cellAt _ (by omega)]; exact x1
        have f1 := hw.frozenAt (t * 3 + 1)
        have x2 : (marks k (t * 3) ++ cs.drop (t * 3))[t * 3 + 2]? = some (cs.getD (t * 3 + 2) .nilFunc) := marks_at _ _ _ 2 (by rw [hlen]; omega)
        have d2 : wr.cell? ⟨g, t * 3 + 2, none⟩ = some (cs.getD (t * 3 + 2) .nilFunc) := by rw [hw.cellAt _ (by omega)]; exact x2
        have f2 := hw.frozenAt (t * 3 + 2)
        have HW := Lib.hid hw
        clear hw hlen x0 x1 x2
        go_wp2
        have hlen := HL.out
        have q0 := HW.out
        have q1 := (q0).stored (t * 3) (.int .i64 ↑(k + (t * 3)))
        rw [marks_set k (t * 3) cs (by rw [hlen]; omega)] at q1
        have q2 := (q1.1).stored (t * 3 + 1) (.int .i64 ↑(k + (t * 3 + 1)))
        rw [marks_set k (t * 3 + 1) cs (by rw [hlen]; omega)] at q2
        have q3 := (q2.1).stored (t * 3 + 2) (.int .i64 ↑(k + (t * 3 + 2)))
        rw [marks_set k (t * 3 + 2) cs (by rw [hlen]; omega)] at q3
        have z0 : ((k + (t * 3) : Nat) : Int) = (k : Int) + (t : Int) * 3 := by omega
        have z1 : ((k + (t * 3 + 1) : Nat) : Int) = (k : Int) + (t : Int) * 3 + 1 := by omega
        have z2 : ((k + (t * 3 + 2) : Nat) : Int) = (k : Int) + (t : Int) * 3 + 1 + 1 := by omega
        simp only [z0, z1, z2] at q3 q1 q2
        exact ⟨⟨t + 1, by omega, by go_num, by congr 1; omega, by rw [show (t + 1) * 3 = t * 3 + 3 by omega]; exact q3.1, grown_trans hg (grown_trans q1.2 (grown_trans q2.2 q3.2))⟩, by simp [intOf]; omega⟩
      · go_wp2
        go_ret
        obtain rfl : t = n := by omega
        exact ⟨rfl, by have := hw; rw [List.drop_of_length_le (by rw [HL.out]; omega), List.append_nil] at this; exact this, hg⟩

end Go.Proofs.YtenedpboehkmjaaGreat
/- Contracts of the laws' helpers over one profile: copy, equality, size, marks. -/
set_option linter.unusedSimpArgs false
set_option linter.unnecessarySimpa false
set_option linter.unusedVariables false
namespace Go.Proofs.YtenedpboehkmjaaGreat
open Go.RowKit

structure PrfD where
  name : ByteArray
  rings : List Rng
  deriving DecidableEq

theorem PrfD.ext_iff' (x y : PrfD) : x = y ↔ x.name = y.name ∧ x.rings = y.rings := by cases x; cases y; simp [PrfD.mk.injEq]

theorem str_inj {a b : ByteArray} (h : a.toList = b.toList) : a = b := by
  rw [ByteArray.toList_eq, ByteArray.toList_eq] at h
  cases a; cases b; simp only at h
  congr 1
  exact Array.toList_inj.1 h
theorem str_beq (a b : ByteArray) : (a.toList == b.toList) = decide (a = b) := by
  by_cases h : a = b
  · subst h; simp
  · have : a.toList ≠ b.toList := fun e => h (str_inj e)
    simp [h, this]

theorem tun_true {x y : PrfD} (h1 : x.name = y.name) (h2 : x.rings = y.rings) : true = decide (x = y) := by
  symm; apply decide_eq_true; rw [PrfD.ext_iff']; exact ⟨h1, h2⟩
theorem tun_false {x y : PrfD} (h : ¬ (x.name = y.name ∧ x.rings = y.rings)) : false = decide (x = y) := by
  symm; apply decide_eq_false; rw [PrfD.ext_iff']; exact h

/-- All numbers of a profile are int64; its name is no longer than a string can be. -/
def PrfD.ok (x : PrfD) : Prop := x.name.size ≤ maxLen ∧ ∀ l ∈ x.rings, I64 l.outer ∧ I64 l.inner ∧ I64 l.height

/-- v is a profile that reads as x, its rings lying at lv. -/
def Prf (w : World) (v : Value) (lv : Value) (x : PrfD) : Prop := v = .agg #[.string x.name, lv] ∧ Rngs w lv x.rings

theorem Prf.mono {w w' : World} {v lv : Value} {x : PrfD} (h : Prf w v lv x) (hb : Below w.heap.size w w') : Prf w' v lv x := ⟨h.1, h.2.mono hb⟩

/-- What is left of a size. -/
def leftPrf (left : Int) (x : PrfD) : Int := if left < x.name.size + x.rings.length then -1 else left - x.name.size - x.rings.length

set_option maxHeartbeats 400000 in
theorem szPrf_any (v lv : Value) (x : PrfD) (left : Int) (w : World) (h : Prf w v lv x) (hn : x.name.size ≤ maxLen) (h0 : 0 ≤ left) (hl : left ≤ 1048576) :
    Calls Tryz.prog 5 #[v, .int .i64 left] w fun e w' => e = .returned (.int .i64 (leftPrf left x)) ∧ Below w.heap.size w w' := by
  obtain ⟨rfl, hlv⟩ := h
  obtain ⟨a, cap, rfl, hn', hc, _⟩ := id hlv
  unfold maxLen at hn
  by_cases g1 : left < x.name.size
  · have e1 : left - (x.name.size : Int) < 0 := by omega
    have er : leftPrf left x = -1 := if_pos (by omega)
    have ER := Lib.hid er; clear er
    go_enter Tryz.func5, Tryz.ntmps5
    go_wp2
    go_ret
    refine ⟨by rw [ER.out]; rfl, ?_⟩
    (repeat (first | with_reducible exact Below.refl _ _ | with_reducible exact hbw | (with_reducible refine Below.setCell ?_ ?_ _; rotate_left; · first | exact Nat.le_refl _ | omega | (simp; done) | (simp; omega)) | (with_reducible refine Below.alloc ?_ ?_ _; rotate_left; · first | exact Nat.le_refl _ | omega | (simp; done) | (simp; omega)) | with_reducible refine below_drewN ?_ _ | with_reducible refine Below.drew ?_))
  · have e1 : ¬ left - (x.name.size : Int) < 0 := by omega
    by_cases g2 : left - x.name.size < x.rings.length
    · have er : leftPrf left x = -1 := if_pos (by omega)
      have ER := Lib.hid er; clear er
      go_enter Tryz.func5, Tryz.ntmps5
      go_wp2_with fail
      refine (szRngs_any _ x.rings x.rings.length (left - x.name.size) _ ⟨a, cap, rfl⟩ (by omega) (by omega) (by omega)).mono ?_
      rw [if_pos (by omega)]
      rintro e w1 ⟨rfl, rfl⟩
      go_wp2
      go_ret
      refine ⟨by rw [ER.out]; rfl, ?_⟩
      (repeat (first | with_reducible exact Below.refl _ _ | with_reducible exact hbw | (with_reducible refine Below.setCell ?_ ?_ _; rotate_left; · first | exact Nat.le_refl _ | omega | (simp; done) | (simp; omega)) | (with_reducible refine Below.alloc ?_ ?_ _; rotate_left; · first | exact Nat.le_refl _ | omega | (simp; done) | (simp; omega)) | with_reducible refine below_drewN ?_ _ | with_reducible refine Below.drew ?_))
    · have er : leftPrf left x = left - x.name.size - x.rings.length := if_neg (by omega)
      have ER := Lib.hid er; clear er
      go_enter Tryz.func5, Tryz.ntmps5
      go_wp2_with fail
      refine (szRngs_any _ x.rings x.rings.length (left - x.name.size) _ ⟨a, cap, rfl⟩ (by omega) (by omega) (by omega)).mono ?_
      rw [if_neg (by omega)]
      rintro e w1 ⟨rfl, rfl⟩
      have e2 : ¬ left - (x.name.size : Int) - (x.rings.length : Int) < 0 := by omega
      go_wp2
      go_ret
      refine ⟨by rw [ER.out]; rfl, ?_⟩
      (repeat (first | with_reducible exact Below.refl _ _ | with_reducible exact hbw | (with_reducible refine Below.setCell ?_ ?_ _; rotate_left; · first | exact Nat.le_refl _ | omega | (simp; done) | (simp; omega)) | (with_reducible refine Below.alloc ?_ ?_ _; rotate_left; · first | exact Nat.le_refl _ | omega | (simp; done) | (simp; omega)) | with_reducible refine below_drewN ?_ _ | with_reducible refine Below.drew ?_))

set_option maxHeartbeats 400000 in
theorem toPrf_any (v lv : Value) (x : PrfD) (w : World) (h : Prf w v lv x) (hs : x.rings.length ≤ 1048576) :
    Calls Tryz.prog 8 #[v] w fun e w' => ∃ lv', e = .returned (.agg #[.string x.name, lv']) ∧ w'.ownsRow w.heap.size 96 3 lv' x.rings.length (x.rings.flatMap Rng.cells) ∧ Below w.heap.size w w' := by
  obtain ⟨rfl, hlv⟩ := h
  go_enter Tryz.func8, Tryz.ntmps8
  go_wp2_with fail
  refine (toRngs_any lv x.rings _ (hlv.mono (by (repeat (first | with_reducible exact Below.refl _ _ | with_reducible exact hbw | (with_reducible refine Below.setCell ?_ ?_ _; rotate_left; · first | exact Nat.le_refl _ | omega | (simp; done) | (simp; omega)) | (with_reducible refine Below.alloc ?_ ?_ _; rotate_left; · first | exact Nat.le_refl _ | omega | (simp; done) | (simp; omega)) | with_reducible refine below_drewN ?_ _ | with_reducible refine Below.drew ?_)))) hs).mono ?_
  rintro e w1 ⟨lv', rfl, ho, hb⟩
  obtain ⟨a', cap', rfl⟩ := owns_slice ho
  obtain ⟨hc, hf⟩ := bcell hb
  have hz : w.heap.size + 1 + 1 < w1.heap.size := by have := hb.size; simp at this; omega
  go_wp2
  refine bodyPost_ret (v := .agg #[.string x.name, .slice a' x.rings.length cap']) (by simp [results, Tryz.results8, go_sem, hc, hz]) rfl ⟨_, rfl, ?_, ?_⟩
  · refine owns_base (base := w.heap.size + 1 + 1 + 1) ?_ (by omega)
    repeat (refine ownsRow_setCell_below ?_ (by first | (simp; done) | (simp; omega)) _)
    simpa using ho
  · have hbw : Below w.heap.size w w1 := Below.trans (by (repeat (first | with_reducible exact Below.refl _ _ | with_reducible exact hbw | (with_reducible refine Below.setCell ?_ ?_ _; rotate_left; · first | exact Nat.le_refl _ | omega | (simp; done) | (simp; omega)) | (with_reducible refine Below.alloc ?_ ?_ _; rotate_left; · first | exact Nat.le_refl _ | omega | (simp; done) | (simp; omega)) | with_reducible refine below_drewN ?_ _ | with_reducible refine Below.drew ?_))) (hb.mono (by simp <;> omega))
    (repeat (first | with_reducible exact Below.refl _ _ | with_reducible exact hbw | (with_reducible refine Below.setCell ?_ ?_ _; rotate_left; · first | exact Nat.le_refl _ | omega | (simp; done) | (simp; omega)) | (with_reducible refine Below.alloc ?_ ?_ _; rotate_left; · first | exact Nat.le_refl _ | omega | (simp; done) | (simp; omega)) | with_reducible refine below_drewN ?_ _ | with_reducible refine Below.drew ?_))

set_option maxHeartbeats 1000000 in
theorem eqPrf_any (v1 l1 v2 l2 : Value) (x y : PrfD) (w : World) (h1 : Prf w v1 l1 x) (h2 : Prf w v2 l2 y) :
    Calls Tryz.prog 13 #[v1, v2] w fun e w' => e = .returned (.bool (decide (x = y))) ∧ Below w.heap.size w w' := by
  obtain ⟨rfl, hl1⟩ := h1
  obtain ⟨rfl, hl2⟩ := h2
  by_cases e1 : x.name = y.name
  · have b1 : (x.name.toList == y.name.toList) = true := by rw [str_beq]; simpa using e1
    have E1 := Lib.hid e1; clear e1
    go_enter Tryz.func13, Tryz.ntmps13
    go_wp2_with fail
    refine (eqRngs_any l1 l2 x.rings y.rings _ (hl1.mono (by (repeat (first | with_reducible exact Below.refl _ _ | with_reducible exact hbw | (with_reducible refine Below.setCell ?_ ?_ _; rotate_left; · first | exact Nat.le_refl _ | omega | (simp; done) | (simp; omega)) | (with_reducible refine Below.alloc ?_ ?_ _; rotate_left; · first | exact Nat.le_refl _ | omega | (simp; done) | (simp; omega)) | with_reducible refine below_drewN ?_ _ | with_reducible refine Below.drew ?_)))) (hl2.mono (by (repeat (first | with_reducible exact Below.refl _ _ | with_reducible exact hbw | (with_reducible refine Below.setCell ?_ ?_ _; rotate_left; · first | exact Nat.le_refl _ | omega | (simp; done) | (simp; omega)) | (with_reducible refine Below.alloc ?_ ?_ _; rotate_left; · first | exact Nat.le_refl _ | omega | (simp; done) | (simp; omega)) | with_reducible refine below_drewN ?_ _ | with_reducible refine Below.drew ?_))))).mono ?_
    rintro e w1 ⟨rfl, hb⟩
    have hbw : Below w.heap.size w w1 := Below.trans (by (repeat (first | with_reducible exact Below.refl _ _ | with_reducible exact hbw | (with_reducible refine Below.setCell ?_ ?_ _; rotate_left; · first | exact Nat.le_refl _ | omega | (simp; done) | (simp; omega)) | (with_reducible refine Below.alloc ?_ ?_ _; rotate_left; · first | exact Nat.le_refl _ | omega | (simp; done) | (simp; omega)) | with_reducible refine below_drewN ?_ _ | with_reducible refine Below.drew ?_))) (hb.mono (by simp <;> omega))
    clear hb
    by_cases e2 : x.rings = y.rings
    · have b2 : decide (x.rings = y.rings) = true := by simpa using e2
      have E2 := Lib.hid e2; clear e2
      go_wp2
      go_ret
      exact ⟨ret_bool (tun_true E1.out E2.out), hbw⟩
    · have b2 : decide (x.rings = y.rings) = false := by simpa using e2
      have E2 := Lib.hid e2; clear e2
      go_wp2
      go_ret
      exact ⟨ret_bool (tun_false fun h => E2.out h.2), hbw⟩
  · have b1 : (x.name.toList == y.name.toList) = false := by rw [str_beq]; simpa using e1
    have E1 := Lib.hid e1; clear e1
    go_enter Tryz.func13, Tryz.ntmps13
    go_wp2
    go_ret
    refine ⟨ret_bool (tun_false fun h => E1.out h.1), ?_⟩
    (repeat (first | with_reducible exact Below.refl _ _ | with_reducible exact hbw | (with_reducible refine Below.setCell ?_ ?_ _; rotate_left; · first | exact Nat.le_refl _ | omega | (simp; done) | (simp; omega)) | (with_reducible refine Below.alloc ?_ ?_ _; rotate_left; · first | exact Nat.le_refl _ | omega | (simp; done) | (simp; omega)) | with_reducible refine below_drewN ?_ _ | with_reducible refine Below.drew ?_))

set_option maxHeartbeats 400000 in
theorem markPrf_any (lv : Value) (nm : ByteArray) (n base k : Nat) (te : TypeId) (cs : List Value) (w : World) (ho : w.ownsRow base te 3 lv n cs) (hk : k + 3 * n ≤ 1000000000) :
    Calls Tryz.prog 15 #[.agg #[.string nm, lv], .int .i64 k] w fun e w' => e = .returned (.int .i64 ↑(k + n * 3)) ∧ w'.ownsRow base te 3 lv n (marks k (n * 3)) ∧ w.grownBy w' lv.ownBlock := by
  obtain ⟨a, cap, rfl⟩ := owns_slice ho
  go_enter Tryz.func15, Tryz.ntmps15
  go_wp2_with fail
  refine (markRngs_any _ n base te cs k _ (ho.alloc _) hk).mono ?_
  rintro e w1 ⟨rfl, ho1, hg⟩
  go_wp2
  go_ret
  exact ⟨rfl, ho1, grown_trans (World.grownBy_alloc _ _ _) hg⟩

/-- A tune lies in block b, its rings at lv. -/
structure PrfAt (w : World) (b : Nat) (lv : Value) (x : PrfD) : Prop where
  c0 : w.cell? ⟨b, 0, none⟩ = some (.string x.name)
  c1 : w.cell? ⟨b, 1, none⟩ = some lv
  rings : Rngs w lv x.rings

end Go.Proofs.YtenedpboehkmjaaGreat
/- The laws' helpers over one profile, in the form that the laws' walks take. -/
set_option linter.unusedSimpArgs false
set_option linter.unnecessarySimpa false
set_option linter.unusedVariables false
namespace Go.Proofs.YtenedpboehkmjaaGreat
open Go.RowKit

def RdPrf (w : World) (v : Value) (x : PrfD) : Prop := ∃ lv, Prf w v lv x
def OwnPrf (B E : Nat) (w : World) (v : Value) (x : PrfD) : Prop := ∃ lv, v = .agg #[.string x.name, lv] ∧ OwnRow B E w 96 3 lv x.rings.length (x.rings.flatMap Rng.cells)
def MkPrf (B E : Nat) (w : World) (v : Value) (x : PrfD) (k : Int) : Prop := ∃ lv, v = .agg #[.string x.name, lv] ∧ OwnRow B E w 96 3 lv x.rings.length (marksI k (x.rings.length * 3))
section
variable {B E B' E' : Nat} {w w' : World} {v : Value} {x : PrfD} {k : Int}
theorem RdPrf.mono (h : RdPrf w v x) (hb : Below w.heap.size w w') : RdPrf w' v x := h.imp fun _ h => h.mono hb
theorem OwnPrf.mono (h : OwnPrf B E w v x) (hb : Below w.heap.size w w') : OwnPrf B E w' v x := h.imp fun _ h => ⟨h.1, h.2.mono hb⟩
theorem OwnPrf.touch (h : OwnPrf B E w v x) (t : Touch B' E' w w') (hd : E ≤ B' ∨ E' ≤ B) : OwnPrf B E w' v x := h.imp fun _ h => ⟨h.1, h.2.touch t hd⟩
theorem OwnPrf.rd (h : OwnPrf B E w v x) : RdPrf w v x := h.imp fun _ h => ⟨h.1, h.2.sl⟩
theorem OwnPrf.form (h : OwnPrf B E w v x) : ∃ a cap, v = .agg #[.string x.name, .slice a x.rings.length cap] := by
  obtain ⟨lv, rfl, h⟩ := h
  obtain ⟨a, cap, rfl⟩ := h.form
  exact ⟨a, cap, rfl⟩
theorem OwnPrf.wide (h : OwnPrf B E w v x) (hB : B' ≤ B) (hE : E ≤ E') : OwnPrf B' E' w v x := h.imp fun _ h => ⟨h.1, h.2.wide hB hE⟩
theorem MkPrf.mono (h : MkPrf B E w v x k) (hb : Below w.heap.size w w') : MkPrf B E w' v x k := h.imp fun _ h => ⟨h.1, h.2.mono hb⟩
theorem MkPrf.touch (h : MkPrf B E w v x k) (t : Touch B' E' w w') (hd : E ≤ B' ∨ E' ≤ B) : MkPrf B E w' v x k := h.imp fun _ h => ⟨h.1, h.2.touch t hd⟩
end

theorem toPrfK (v : Value) (x : PrfD) (w : World) (h : RdPrf w v x) (hs : x.rings.length ≤ 1048576) :
    Calls Tryz.prog 8 #[v] w fun e w' => ∃ v', e = .returned v' ∧ OwnPrf w.heap.size w'.heap.size w' v' x ∧ Below w.heap.size w w' := by
  obtain ⟨lv, h⟩ := h
  exact (toPrf_any v lv x w h hs).mono fun e w' ⟨lv', he, ho, hb⟩ => ⟨_, he, ⟨lv', rfl, OwnRow.mk' ho⟩, hb⟩
theorem eqPrfK (v1 v2 : Value) (x : PrfD) (w : World) (h1 : RdPrf w v1 x) (h2 : RdPrf w v2 x) :
    Calls Tryz.prog 13 #[v1, v2] w fun e w' => e = .returned (.bool true) ∧ Below w.heap.size w w' := by
  obtain ⟨l1, h1⟩ := h1
  obtain ⟨l2, h2⟩ := h2
  exact (eqPrf_any v1 l1 v2 l2 x x w h1 h2).mono fun e w' ⟨he, hb⟩ => ⟨by rw [he]; simp, hb⟩
theorem markPrfK (B E : Nat) (v : Value) (x : PrfD) (k : Int) (w : World) (h : OwnPrf B E w v x) (h0 : 0 ≤ k) (hk : k + x.rings.length * 3 ≤ 1000000000) :
    Calls Tryz.prog 15 #[v, .int .i64 k] w fun e w' => e = .returned (.int .i64 (k + x.rings.length * 3)) ∧ MkPrf B E w' v x k ∧ Touch B E w w' := by
  obtain ⟨j, rfl⟩ := Int.eq_ofNat_of_zero_le h0
  obtain ⟨lv, rfl, h⟩ := h
  refine (markPrf_any lv x.name x.rings.length B j _ _ w h.1 (by omega)).mono fun e w' ⟨he, ho, hg⟩ => ⟨by rw [he]; congr 2 <;> omega, ⟨lv, rfl, by rw [marksI_nat]; exact ho, h.2⟩, Touch.of_grown hg fun k hk => ⟨(h.1.lt k hk).1, h.2 k hk⟩⟩
end Go.Proofs.YtenedpboehkmjaaGreat
