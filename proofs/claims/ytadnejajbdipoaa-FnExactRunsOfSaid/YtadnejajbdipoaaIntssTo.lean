/- The laws' copy of a slice of slices of numbers: memory of its own, row by row. -/
import Derived.Test.YtadnejajbdipoaaIntss
set_option linter.unusedSimpArgs false
set_option linter.unnecessarySimpa false
set_option linter.unusedVariables false
set_option maxRecDepth 100000
namespace Go.Proofs.Ytadnejajbdipoaa
open Go.RowKit

/-- Two slices that do not lie in one block of their own. -/
def apart (a b : Value) : Prop := a.ownBlock = none ∨ a.ownBlock ≠ b.ownBlock
theorem apart.symm {a b : Value} (h : apart a b) : apart b a := by
  rcases h with h | h
  · cases hb : b.ownBlock with
    | none => exact .inl hb
    | some k => exact .inr (by rw [hb, h]; simp)
  · exact .inr fun e => h e.symm
/-- v owns rows of numbers: its row and each one's, in blocks from B to E, all apart. -/
def OwnIntss (B E : Nat) (w : World) (v : Value) (xs : List (List Int)) : Prop := ∃ ys : List (Value × List Int), ys.map Prod.snd = xs ∧ OwnRow B E w 24 1 v ys.length (ys.map Prod.fst) ∧
  (∀ y ∈ ys, OwnRow B E w 2 1 y.1 y.2.length (y.2.map (Value.int .i64))) ∧ (∀ y ∈ ys, apart v y.1) ∧ (ys.map Prod.fst).Pairwise apart
section
variable {B E B' E' : Nat} {w w' : World} {v : Value} {x : List (List Int)}
theorem OwnIntss.mono (h : OwnIntss B E w v x) (hb : Below w.heap.size w w') : OwnIntss B E w' v x := by
  obtain ⟨ys, e, h1, h2, h3⟩ := h
  exact ⟨ys, e, h1.mono hb, fun y hy => (h2 y hy).mono hb, h3⟩
theorem OwnIntss.touch (h : OwnIntss B E w v x) (t : Touch B' E' w w') (hd : E ≤ B' ∨ E' ≤ B) : OwnIntss B E w' v x := by
  obtain ⟨ys, e, h1, h2, h3⟩ := h
  exact ⟨ys, e, h1.touch t hd, fun y hy => (h2 y hy).touch t hd, h3⟩
theorem OwnIntss.wide (h : OwnIntss B E w v x) (hB : B' ≤ B) (hE : E ≤ E') : OwnIntss B' E' w v x := by
  obtain ⟨ys, e, h1, h2, h3⟩ := h
  exact ⟨ys, e, h1.wide hB hE, fun y hy => (h2 y hy).wide hB hE, h3⟩
theorem OwnIntss.rd (h : OwnIntss B E w v x) : RdIntss w v x := by
  obtain ⟨ys, e, h1, h2, h3⟩ := h
  exact ⟨ys, e, h1.sl, fun y hy => (h2 y hy).sl⟩
theorem OwnIntss.form (h : OwnIntss B E w v x) : ∃ a cap, v = .slice a x.length cap := h.rd.form
end

theorem info_ints : (Try.prog.info? 24).map (fun i => (i.zero, i.size, i.bytes)) = some (some (.slice none 0 0), 1, 24) := by kernel_rfl

set_option maxHeartbeats 1000000 in
theorem toIntssK (v1 : Value) (xs : List (List Int)) (w : World) (h1 : RdIntss w v1 xs) (hs : szIntss xs ≤ 1048576) :
    Calls Try.prog 17 #[v1] w fun e w' => ∃ v, e = .returned v ∧ OwnIntss w.heap.size w'.heap.size w' v xs ∧ Below w.heap.size w w' := by
  obtain ⟨a, ca, rfl, _, hm⟩ := h1.form'
  obtain ⟨i0, hi, hz0, hz1, hz2⟩ := info_parts info_ints
  have hn := szIntss_len xs
  have HS := Lib.hid hs; have HN := Lib.hid hn; clear hs hn
  go_enter Try.func17, Try.ntmps17
  go_wp2_with (at_make; refine wpList_make_full _ rfl _ _ 32 rfl w.heap.size 24 i0 (.slice none 0 0) 1 Try.underlying32 hi hz0 hz1 _ _ _ _ xs.length rfl rfl rfl rfl (by rw [hz2]; have := HS.out; have := HN.out; omega) (by have := HS.out; have := HN.out; unfold maxLen; omega) (Nat.le_refl _) ?_)
  intro w1 hown hgrow
  have hb1 : Below w.heap.size w w1 := (Below.refl _ _).grown hgrow (Nat.le_refl _) (by simp)
  go_wp2
  go_loopw [4] (fun i wr => ∃ (k : Nat) (ys : List (Value × List Int)), k ≤ xs.length ∧ i = .int .i64 k ∧ ys.map Prod.snd = xs.take k ∧ wr.ownsRow w.heap.size 24 1 (.slice (some ⟨w.heap.size, 0, none⟩) xs.length xs.length) xs.length (ys.map Prod.fst ++ List.replicate (xs.length - k) (.slice none 0 0)) ∧ (∀ y ∈ ys, OwnRow (w.heap.size + 1) wr.heap.size wr 2 1 y.1 y.2.length (y.2.map (Value.int .i64))) ∧ (ys.map Prod.fst).Pairwise apart ∧ w.heap.size < wr.heap.size ∧ Below w.heap.size w wr) (fun i _ => xs.length - (intOf i).toNat)
  case atStart => exact ⟨0, [], Nat.zero_le _, rfl, rfl, by simpa [toList_madeCells_one, Value.cells] using hown, by simp, by simp, (hown.lt w.heap.size rfl).2, hb1⟩
  case round =>
    obtain ⟨k, ys, hk, rfl, hys, ho, hL, hP, hz, hb⟩ := hrel
    clear hown hgrow hb1
    have HY := Lib.hid hys; clear hys
    have HP := Lib.hid hP; clear hP
    have HL := Lib.hid hL; clear hL
    by_cases hlt : k < xs.length
    · obtain ⟨b1, o1, lv, c1, rfl, hB, c0, hv⟩ := (h1.mono hb).at hlt
      have hm : xs.length ≤ 1048576 := by have := HS.out; have := HN.out; omega
      have hm2 : xs[k].length ≤ 1048576 := by have := HS.out; have := szIntss_at hlt; omega
      go_wp2_with fail
      refine (toInts_any _ xs[k] _ hv hm2).mono ?_
      rintro e w2 ⟨lv', rfl, hol, hb2⟩
      obtain ⟨a', cap', rfl⟩ := owns_slice hol
      have ho2 := owns_mono ho hb2
      have hlen : ys.length = k := by have := congrArg List.length HY.out; simpa [Nat.min_eq_left hk] using this
      have hal : (ys.map Prod.fst).length = k := by simpa using hlen
      rw [show xs.length - k = (xs.length - (k + 1)) + 1 by omega, List.replicate_succ] at ho2
      have d0 : w2.cell? ⟨w.heap.size, k, none⟩ = some (.slice none 0 0) := by rw [ho2.cellAt _ (by omega), List.getElem?_append_right (by omega), hal]; simp
      have f0 := ho2.frozenAt k
      have HA := Lib.hid hal; have HO := Lib.hid ho2; have HE := Lib.hid hlen; clear hal ho2 ho hlen
      have HOL := Lib.hid hol; clear hol
      go_wp2
      have e' := stored1 HO.out HA.out (.slice a' xs[k].length cap')
      have hz2 := hb2.size
      refine ⟨⟨k + 1, ys ++ [(.slice a' xs[k].length cap', xs[k])], by omega, by go_num, ?_, ?_, ?_, ?_, ?_, ?_⟩, by simp [intOf]; omega⟩
      · rw [List.map_append, HY.out, List.take_succ_eq_append_getElem hlt]; rfl
      · rw [List.map_append, List.append_assoc]; exact e'.1
      · intro y hy
        rcases List.mem_append.1 hy with hy | hy
        · exact (((HL.out y hy).mono hb2).touch (B' := w.heap.size) (E' := w.heap.size + 1) (by (repeat (first | with_reducible exact Touch.refl _ _ _ | with_reducible exact htc | (with_reducible refine Touch.setCell ?_ ?_ _; rotate_left; · (simp only; omega)) | (with_reducible refine Touch.setNew ?_ ?_ _; rotate_left; · (first | (simp only; omega) | (simp; done) | (simp; omega))) | with_reducible refine Touch.alloc ?_ _ | with_reducible refine Touch.drewN ?_ _ | with_reducible refine Touch.drew ?_))) (by omega)).wide (Nat.le_refl _) (by simp; omega)
        · simp only [List.mem_singleton] at hy
          subst hy
          exact ((OwnRow.mk' HOL.out).touch (B' := w.heap.size) (E' := w.heap.size + 1) (by (repeat (first | with_reducible exact Touch.refl _ _ _ | with_reducible exact htc | (with_reducible refine Touch.setCell ?_ ?_ _; rotate_left; · (simp only; omega)) | (with_reducible refine Touch.setNew ?_ ?_ _; rotate_left; · (first | (simp only; omega) | (simp; done) | (simp; omega))) | with_reducible refine Touch.alloc ?_ _ | with_reducible refine Touch.drewN ?_ _ | with_reducible refine Touch.drew ?_))) (by omega)).wide (by omega) (by simp)
      · rw [List.map_append, List.pairwise_append]
        refine ⟨HP.out, by simp, fun a1 ha b hb' => ?_⟩
        simp only [List.map_cons, List.map_nil, List.mem_singleton] at hb'
        subst hb'
        obtain ⟨y, hy, rfl⟩ := List.mem_map.1 ha
        cases hv1 : y.1.ownBlock with
        | none => exact .inl hv1
        | some q =>
          refine .inr fun e2 => ?_
          have h5 := (HL.out y hy).2 q hv1
          have h6 := (HOL.out.lt q (by rw [← e2, hv1])).1
          omega
      · simp; omega
      · exact (hb.trans (hb2.mono hb.size)).grown e'.2 (by omega) (by intro k hk; cases hk; exact Nat.le_refl _)
    · obtain rfl : k = xs.length := by omega
      go_wp2
      go_ret
      refine ⟨_, rfl, ⟨ys, by rw [HY.out, List.take_length], ⟨?_, ?_⟩, fun y hy => (HL.out y hy).wide (by omega) (Nat.le_refl _), fun y hy => ?_, HP.out⟩, hb⟩
      · have := ho
        rw [Nat.sub_self] at this
        have hlen : ys.length = xs.length := by have := congrArg List.length HY.out; simpa using this
        rw [hlen]
        simpa using this
      · intro k hk; cases hk; omega
      · refine .inr fun e2 => ?_
        have h6 := ((HL.out y hy).1.lt w.heap.size (by rw [← e2]; rfl)).1
        omega

end Go.Proofs.Ytadnejajbdipoaa
