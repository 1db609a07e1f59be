/- The laws' copy of a slice of actions: memory of its own, row by row. -/
import Derived.Test.YtjmapbgbmgaljaaActs
set_option linter.unusedSimpArgs false
set_option linter.unnecessarySimpa false
set_option linter.unusedVariables false
set_option maxRecDepth 100000
namespace Go.Proofs.Ytjmapbgbmgaljaa
open Go.RowKit

/-- Two slices that do not lie in one block of their own. -/
def apart (a b : Value) : Prop := a.ownBlock = none ∨ a.ownBlock ≠ b.ownBlock
theorem apart.symm {a b : Value} (h : apart a b) : apart b a := by
  rcases h with h | h
  · cases hb : b.ownBlock with
    | none => exact .inl hb
    | some k => exact .inr (by rw [hb, h]; simp)
  · exact .inr fun e => h e.symm
/-- v owns actions: its row and each one's levers, in blocks from B to E, all apart. -/
def OwnActs (B E : Nat) (w : World) (v : Value) (xs : List ActD) : Prop := ∃ ys : List (Value × ActD), ys.map Prod.snd = xs ∧ OwnRow B E w 29 4 v ys.length (ys.flatMap actCells) ∧
  (∀ y ∈ ys, OwnRow B E w 70 2 y.1 y.2.levs.length (y.2.levs.flatMap Lev.cells)) ∧ (∀ y ∈ ys, apart v y.1) ∧ (ys.map Prod.fst).Pairwise apart
section
variable {B E B' E' : Nat} {w w' : World} {v : Value} {x : List ActD}
theorem OwnActs.mono (h : OwnActs B E w v x) (hb : Below w.heap.size w w') : OwnActs B E w' v x := by
  obtain ⟨ys, e, h1, h2, h3⟩ := h
  exact ⟨ys, e, h1.mono hb, fun y hy => (h2 y hy).mono hb, h3⟩
theorem OwnActs.touch (h : OwnActs B E w v x) (t : Touch B' E' w w') (hd : E ≤ B' ∨ E' ≤ B) : OwnActs B E w' v x := by
  obtain ⟨ys, e, h1, h2, h3⟩ := h
  exact ⟨ys, e, h1.touch t hd, fun y hy => (h2 y hy).touch t hd, h3⟩
theorem OwnActs.wide (h : OwnActs B E w v x) (hB : B' ≤ B) (hE : E ≤ E') : OwnActs B' E' w v x := by
  obtain ⟨ys, e, h1, h2, h3⟩ := h
  exact ⟨ys, e, h1.wide hB hE, fun y hy => (h2 y hy).wide hB hE, h3⟩
theorem OwnActs.rd (h : OwnActs B E w v x) : RdActs w v x := by
  obtain ⟨ys, e, h1, h2, h3⟩ := h
  exact ⟨ys, e, h1.sl, fun y hy => (h2 y hy).sl⟩
theorem OwnActs.form (h : OwnActs B E w v x) : ∃ a cap, v = .slice a x.length cap := h.rd.form
end

theorem info_Action : (Try.prog.info? 29).map (fun i => (i.zero, i.size, i.bytes)) = some (some (.agg #[.int .i64 0, .slice none 0 0, .int .i64 0, .int .i64 0]), 4, 48) := by kernel_rfl

def zs4 (n : Nat) : List Value := (List.replicate n [Value.int .i64 0, .slice none 0 0, .int .i64 0, .int .i64 0]).flatten
theorem zs4_succ (n : Nat) : zs4 (n + 1) = .int .i64 0 :: .slice none 0 0 :: .int .i64 0 :: .int .i64 0 :: zs4 n := by simp [zs4, List.replicate_succ]
theorem zs4_len (n : Nat) : (zs4 n).length = n * 4 := by
  induction n with
  | zero => rfl
  | succ n ih => rw [zs4_succ]; simp [ih]; omega
theorem act_len (ys : List (Value × ActD)) : (ys.flatMap actCells).length = ys.length * 4 := flat_len (f := actCells) (fun _ => rfl) ys
theorem stored4 {w : World} {base : Nat} {e : TypeId} {size g n cap : Nat} {A R : List Value} {z0 z1 z2 z3 : Value} {j : Nat} (h : w.ownsRow base e size (.slice (some ⟨g, 0, none⟩) n cap) n (A ++ z0 :: z1 :: z2 :: z3 :: R)) (hA : A.length = j) (a b c d : Value) :
    ((((w.setCell ⟨g, j, none⟩ a).setCell ⟨g, j + 1, none⟩ b).setCell ⟨g, j + 2, none⟩ c).setCell ⟨g, j + 3, none⟩ d).ownsRow base e size (.slice (some ⟨g, 0, none⟩) n cap) n (A ++ a :: b :: c :: d :: R) ∧ w.grownBy ((((w.setCell ⟨g, j, none⟩ a).setCell ⟨g, j + 1, none⟩ b).setCell ⟨g, j + 2, none⟩ c).setCell ⟨g, j + 3, none⟩ d) (some g) := by
  have h1 := stored3 h hA a b c
  have h2 := stored1 (A := A ++ [a, b, c]) (z := z3) (R := R) (j := j + 3) (by simpa using h1.1) (by simp [hA]) d
  exact ⟨by simpa using h2.1, grown_trans h1.2 h2.2⟩

theorem made_acts (n : Nat) : (madeCells #[.int .i64 0, .slice none 0 0, .int .i64 0, .int .i64 0] (n * 4)).toList = zs4 n := by
  have key : ∀ n, (List.range (n * 4)).map (fun i => (#[Value.int .i64 0, .slice none 0 0, .int .i64 0, .int .i64 0] : Array Value)[i % 4]!) = zs4 n := by
    intro n
    induction n with
    | zero => rfl
    | succ n ih =>
      rw [show (n + 1) * 4 = 4 + n * 4 by omega, List.range_add, List.map_append, List.map_map, zs4_succ, ← ih]
      have : (fun i => (#[Value.int .i64 0, .slice none 0 0, .int .i64 0, .int .i64 0] : Array Value)[i % 4]!) ∘ (4 + ·) = fun i => (#[Value.int .i64 0, .slice none 0 0, .int .i64 0, .int .i64 0] : Array Value)[i % 4]! := by
        funext i; simp [Nat.add_mod_left]
      rw [this]; rfl
  rw [← key n]
  simp [madeCells]

set_option maxHeartbeats 1000000 in
theorem toActsK (v1 : Value) (xs : List ActD) (w : World) (h1 : RdActs w v1 xs) (hs : szActs xs ≤ 1048576) :
    Calls Try.prog 24 #[v1] w fun e w' => ∃ v, e = .returned v ∧ OwnActs w.heap.size w'.heap.size w' v xs ∧ Below w.heap.size w w' := by
  obtain ⟨a, ca, rfl, hm⟩ := h1.form'
  obtain ⟨i0, hi, hz0, hz1, hz2⟩ := info_parts info_Action
  have hn := szActs_len xs
  have HS := Lib.hid hs; have HN := Lib.hid hn; clear hs hn
  go_enter Try.func24, Try.ntmps24
  go_wp2_with (at_make; refine wpList_make_full _ rfl _ _ 37 rfl w.heap.size 29 i0 _ 4 Try.underlying37 hi hz0 hz1 _ _ _ _ xs.length rfl rfl rfl rfl (by rw [hz2]; have := HS.out; have := HN.out; omega) (by have := HS.out; have := HN.out; unfold maxLen; omega) (Nat.le_refl _) ?_)
  intro w1 hown hgrow
  have hb1 : Below w.heap.size w w1 := (Below.refl _ _).grown hgrow (Nat.le_refl _) (by simp)
  go_wp2
  go_loopw [4] (fun i wr => ∃ (k : Nat) (ys : List (Value × ActD)), k ≤ xs.length ∧ i = .int .i64 k ∧ ys.map Prod.snd = xs.take k ∧ wr.ownsRow w.heap.size 29 4 (.slice (some ⟨w.heap.size, 0, none⟩) xs.length xs.length) xs.length (ys.flatMap actCells ++ zs4 (xs.length - k)) ∧ (∀ y ∈ ys, OwnRow (w.heap.size + 1) wr.heap.size wr 70 2 y.1 y.2.levs.length (y.2.levs.flatMap Lev.cells)) ∧ (ys.map Prod.fst).Pairwise apart ∧ w.heap.size < wr.heap.size ∧ Below w.heap.size w wr) (fun i _ => xs.length - (intOf i).toNat)
  case atStart => exact ⟨0, [], Nat.zero_le _, rfl, rfl, by simpa [made_acts, Value.cells] using hown, by simp, by simp, (hown.lt w.heap.size rfl).2, hb1⟩
  case round =>
    obtain ⟨k, ys, hk, rfl, hys, ho, hL, hP, hz, hb⟩ := hrel
    clear hown hgrow hb1
    have HY := Lib.hid hys; clear hys
    have HP := Lib.hid hP; clear hP
    have HL := Lib.hid hL; clear hL
    by_cases hlt : k < xs.length
    · obtain ⟨b1, o1, lv, c1, rfl, hB, c0, c1, c2, c3, hv⟩ := (h1.mono hb).at' hlt
      have hm : xs.length ≤ 1048576 := by have := HS.out; have := HN.out; omega
      have hm2 : xs[k].levs.length ≤ 1048576 := by have := HS.out; have := szActs_at hlt; omega
      go_wp2_with fail
      refine (toAct_any _ _ xs[k] _ ⟨rfl, hv⟩ hm2).mono ?_
      rintro e w2 ⟨lv', rfl, hol, hb2⟩
      obtain ⟨a', cap', rfl⟩ := owns_slice hol
      have ho2 := owns_mono ho hb2
      have hlen : ys.length = k := by have := congrArg List.length HY.out; simpa [Nat.min_eq_left hk] using this
      have hal := act_len ys
      rw [hlen] at hal
      rw [show xs.length - k = (xs.length - (k + 1)) + 1 by omega, zs4_succ] at ho2
      have d0 : w2.cell? ⟨w.heap.size, k * 4, none⟩ = some (.int .i64 0) := by rw [ho2.cellAt _ (by omega), List.getElem?_append_right (by omega), hal]; simp
      have f0 := ho2.frozenAt (k * 4)
      have d1 : w2.cell? ⟨w.heap.size, k * 4 + 1, none⟩ = some (.slice none 0 0) := by rw [ho2.cellAt _ (by omega), List.getElem?_append_right (by omega), hal]; simp
      have f1 := ho2.frozenAt (k * 4 + 1)
      have d2 : w2.cell? ⟨w.heap.size, k * 4 + 2, none⟩ = some (.int .i64 0) := by rw [ho2.cellAt _ (by omega), List.getElem?_append_right (by omega), hal]; simp
      have f2 := ho2.frozenAt (k * 4 + 2)
      have d3 : w2.cell? ⟨w.heap.size, k * 4 + 3, none⟩ = some (.int .i64 0) := by rw [ho2.cellAt _ (by omega), List.getElem?_append_right (by omega), hal]; simp
      have f3 := ho2.frozenAt (k * 4 + 3)
      have HA := Lib.hid hal; have HO := Lib.hid ho2; have HE := Lib.hid hlen; clear hal ho2 ho hlen
      have HOL := Lib.hid hol; clear hol
      go_wp2
      have e' := stored4 HO.out HA.out (.int .i64 xs[k].note) (.slice a' xs[k].levs.length cap') (.int .i64 xs[k].slack) (.int .i64 xs[k].weight)
      have hz2 := hb2.size
      refine ⟨⟨k + 1, ys ++ [(.slice a' xs[k].levs.length cap', xs[k])], by omega, by go_num, ?_, ?_, ?_, ?_, ?_, ?_⟩, by simp [intOf]; omega⟩
      · rw [List.map_append, HY.out, List.take_succ_eq_append_getElem hlt]; rfl
      · rw [List.flatMap_append, List.append_assoc]; exact e'.1
      · intro y hy
        rcases List.mem_append.1 hy with hy | hy
        · exact (((HL.out y hy).mono hb2).touch (B' := w.heap.size) (E' := w.heap.size + 1) (by (repeat (first | with_reducible exact Touch.refl _ _ _ | with_reducible exact htc | (with_reducible refine Touch.setCell ?_ ?_ _; rotate_left; · (simp only; omega)) | (with_reducible refine Touch.setNew ?_ ?_ _; rotate_left; · (first | (simp only; omega) | (simp; done) | (simp; omega))) | with_reducible refine Touch.alloc ?_ _ | with_reducible refine Touch.drewN ?_ _ | with_reducible refine Touch.drew ?_))) (by omega)).wide (Nat.le_refl _) (by simp; omega)
        · simp only [List.mem_singleton] at hy
          subst hy
          exact ((OwnRow.mk' HOL.out).touch (B' := w.heap.size) (E' := w.heap.size + 1) (by (repeat (first | with_reducible exact Touch.refl _ _ _ | with_reducible exact htc | (with_reducible refine Touch.setCell ?_ ?_ _; rotate_left; · (simp only; omega)) | (with_reducible refine Touch.setNew ?_ ?_ _; rotate_left; · (first | (simp only; omega) | (simp; done) | (simp; omega))) | with_reducible refine Touch.alloc ?_ _ | with_reducible refine Touch.drewN ?_ _ | with_reducible refine Touch.drew ?_))) (by omega)).wide (by omega) (by simp)
      · rw [List.map_append, List.pairwise_append]
        refine ⟨HP.out, by simp, fun a1 ha b hb' => ?_⟩
        simp only [List.map_cons, List.map_nil, List.mem_singleton] at hb'
        subst hb'
        obtain ⟨y, hy, rfl⟩ := List.mem_map.1 ha
        cases hv1 : y.1.ownBlock with
        | none => exact .inl hv1
        | some q =>
          refine .inr fun e2 => ?_
          have h5 := (HL.out y hy).2 q hv1
          have h6 := (HOL.out.lt q (by rw [← e2, hv1])).1
          omega
      · simp; omega
      · exact (hb.trans (hb2.mono hb.size)).grown e'.2 (by omega) (by intro k hk; cases hk; exact Nat.le_refl _)
    · obtain rfl : k = xs.length := by omega
      go_wp2
      go_ret
      refine ⟨_, rfl, ⟨ys, by rw [HY.out, List.take_length], ⟨?_, ?_⟩, fun y hy => (HL.out y hy).wide (by omega) (Nat.le_refl _), fun y hy => ?_, HP.out⟩, hb⟩
      · have := ho
        rw [Nat.sub_self] at this
        have hlen : ys.length = xs.length := by have := congrArg List.length HY.out; simpa using this
        rw [hlen]
        simpa [zs4] using this
      · intro k hk; cases hk; omega
      · refine .inr fun e2 => ?_
        have h6 := ((HL.out y hy).1.lt w.heap.size (by rw [← e2]; rfl)).1
        omega

theorem eqActsK (v1 v2 : Value) (x : List ActD) (w : World) (h1 : RdActs w v1 x) (h2 : RdActs w v2 x) :
    Calls Try.prog 26 #[v1, v2] w fun e w' => e = .returned (.bool true) ∧ Below w.heap.size w w' :=
  (eqActs_any v1 v2 x x w h1 h2).mono fun e w' ⟨he, hb⟩ => ⟨by rw [he]; simp, hb⟩

end Go.Proofs.Ytjmapbgbmgaljaa
