import Derived.Test.YtenedpboehkmjaaGreatSpZ18
import Derived.Test.YtenedpboehkmjaaGreatSpZ14
import Derived.Test.YtenedpboehkmjaaGreatSpZ13
import Derived.Test.YtenedpboehkmjaaGreatSpZ2
/- Of the old blocks only two have changed: facts carried in one word. Contracts of l00Min, l10New. -/
set_option linter.unusedSimpArgs false
set_option linter.unnecessarySimpa false
set_option linter.unusedVariables false
set_option maxRecDepth 100000
namespace Go.Proofs.YtenedpboehkmjaaGreat
open Go.RowKit

structure Two (p u : Nat) (w w' : World) : Prop where
  os : w'.os = w.os
  tape : w'.tape = w.tape
  output : w'.output = w.output
  size : w.heap.size ≤ w'.heap.size
  block : ∀ k, k < w.heap.size → k ≠ p → k ≠ u → w'.heap[k]? = w.heap[k]?
section
variable {p u : Nat} {w w1 w2 : World}
theorem Two.refl (p u : Nat) (w : World) : Two p u w w := ⟨rfl, rfl, rfl, Nat.le_refl _, fun _ _ _ _ => rfl⟩
theorem Two.trans (h : Two p u w w1) (g : Two p u w1 w2) : Two p u w w2 :=
  ⟨g.os.trans h.os, g.tape.trans h.tape, g.output.trans h.output, Nat.le_trans h.size g.size, fun k hk hp hu => (g.block k (Nat.lt_of_lt_of_le hk h.size) hp hu).trans (h.block k hk hp hu)⟩
theorem Two.step {b : Nat} (h : Two p u w w1) (k : Below b w1 w2) (hb : w.heap.size ≤ b) : Two p u w w2 :=
  ⟨k.os.trans h.os, k.tape.trans h.tape, k.output.trans h.output, Nat.le_trans h.size k.size, fun i hi hp hu => (k.block i (by omega)).trans (h.block i hi hp hu)⟩
theorem Two.setCell (h : Two p u w w1) {a : Addr} (ha : a.block = p ∨ a.block = u) (v : Value) : Two p u w (w1.setCell a v) :=
  ⟨h.os, h.tape, h.output, by have := h.size; simpa [World.setCell] using this, fun k hk hp hu => (Below.heap_setCell _ _ _ _ (by rcases ha with e | e <;> omega)).trans (h.block k hk hp hu)⟩
theorem Two.drewN (h : Two p u w w1) (n : Nat) : Two p u w (w1.drewN n) := ⟨h.os, h.tape, h.output, h.size, h.block⟩
theorem Two.drew (h : Two p u w w1) : Two p u w w1.drew := ⟨h.os, h.tape, h.output, h.size, h.block⟩
theorem Two.below {W : World} {b : Nat} (t : Two p u w w1) (h : Below b W w) (hb : b ≤ p) (hu : b ≤ u) (hW : b ≤ w.heap.size) : Below b W w1 :=
  h.trans ⟨t.os, t.tape, t.output, t.size, fun k hk => t.block k (by omega) (by omega) (by omega)⟩
theorem Two.cell (t : Two p u w w1) {a : Addr} {v : Value} (h : w.cell? a = some v) (hp : a.block ≠ p) (hu : a.block ≠ u) : w1.cell? a = some v :=
  (World.cell?_of_block (w := w) (t.block _ (World.block_lt_of_cell? w _ h) hp hu)).trans h
theorem Two.froz (t : Two p u w w1) {b o : Nat} {v : Bool} (hb : b < w.heap.size) (hp : b ≠ p) (hu : b ≠ u) (h : w.frozen? ⟨b, o, none⟩ = v) : w1.frozen? ⟨b, o, none⟩ = v := by
  have := t.block b hb hp hu
  unfold World.frozen? at *
  simp only at *
  rw [this]; exact h
theorem Box.two {q : Nat} {cs : List Value} (h : Box w q cs) (t : Two p u w w1) (hp : q ≠ p) (hu : q ≠ u) : Box w1 q cs :=
  ⟨Nat.lt_of_lt_of_le h.lt t.size, fun j v hv => t.cell (h.at' j v hv) hp hu, fun j => t.froz h.lt hp hu (h.fr j)⟩
/-- The value's block, if any, is neither p nor u. -/
def Off (v : Value) (p u : Nat) : Prop := v.ownBlock ≠ some p ∧ v.ownBlock ≠ some u
theorem Ints.two {v : Value} {xs : List Int} (h : Ints w v xs) (t : Two p u w w1) (ho : Off v p u) : Ints w1 v xs := by
  obtain ⟨a, cap, rfl, h1, h2, h3⟩ := h
  refine ⟨_, _, rfl, h1, h2, fun j x hx => ?_⟩
  obtain ⟨b, off, rfl, hc⟩ := h3 j x hx
  exact ⟨b, off, rfl, t.cell hc (fun e => ho.1 (by rw [← e]; rfl)) (fun e => ho.2 (by rw [← e]; rfl))⟩
end
theorem off_owns {w : World} {base n p u : Nat} {e : TypeId} {size : Nat} {v : Value} {cs : List Value} (h : w.ownsRow base e size v n cs) (hp : p < base) (hu : u < base) : Off v p u :=
  ⟨fun e => by have := (h.lt p e).1; omega, fun e => by have := (h.lt u e).1; omega⟩
theorem owns_two {w w' : World} {base p u n : Nat} {e : TypeId} {size : Nat} {v : Value} {cs : List Value} (h : w.ownsRow base e size v n cs) (t : Two p u w w') (ho : Off v p u) : w'.ownsRow base e size v n cs := by
  obtain ⟨hl, h⟩ := h
  refine ⟨hl, ?_⟩
  rcases h with h | ⟨g, c, cur, h1, h2, h3, h4, h5, h6, h7⟩
  · exact .inl h
  · refine .inr ⟨g, c, cur, h1, h2, ?_, h4, h5, h6, h7⟩
    have hg : g < w.heap.size := by
      rcases Nat.lt_or_ge g w.heap.size with h | h
      · exact h
      · rw [Array.getElem?_eq_none h] at h3; cases h3
    exact (t.block g hg (fun e => ho.1 (by rw [h1, ← e]; rfl)) (fun e => ho.2 (by rw [h1, ← e]; rfl))).trans h3

theorem l00Min_any (o a b : Int) (w : World) (h : o = min a b) : Calls Tryz.prog 60 #[.int .i64 a, .int .i64 b] w fun e w' => e = .returned (.int .i64 o) ∧ w' = w := by
  by_cases g : a < b
  · have d : decide (a < b) = true := by simpa using g
    have H := Lib.hid (show a = o by omega); clear h
    go_enter Tryz.func60, Tryz.ntmps60
    go_wp2
    go_ret
    exact ⟨ret_int H.out, rfl⟩
  · have d : decide (a < b) = false := by simpa using g
    have H := Lib.hid (show b = o by omega); clear h
    go_enter Tryz.func60, Tryz.ntmps60
    go_wp2
    go_ret
    exact ⟨ret_int H.out, rfl⟩

/-- The cells of the reference's search. -/
def fS (vm vp vg vr : Value) (budget : Nat) (total : Int) (vs : Value) (sum : Int) (best : Value) (cnt : Int) (left : Nat) (sp : Bool) : List Value :=
  [vm, vp, vg, vr, vs, .int .i64 total, .int .i64 sum, .bool false, .bool false, best, .int .i64 (-1), .int .i64 cnt, .int .i64 ((budget - left : Nat) : Int), .int .i64 (budget : Int), .bool sp]
def ptr (q o : Nat) : Value := .pointer (some ⟨q, o, none⟩)
set_option maxHeartbeats 4000000 in
theorem l10New_any (q o : Nat) (x : ModD) (q2 o2 : Nat) (p : PrfD) (q3 o3 : Nat) (g : GoalD) (n : Nat) (w : World) {az cz ag cg ab cb} {a : Option Addr} {c : Nat} (hm : ModIn w q o x az cz ag cg ab cb) (hp : PrfIn w q2 o2 p a c) (hg : GoalIn w q3 o3 g) (hn : p.name.size ≤ maxLen) (okp : prfOk p) (zo : zonesOk p.rings.length x.zones) :
    Calls Tryz.prog 43 #[ptr q o, ptr q2 o2, ptr q3 o3, .int .i64 (n : Int)] w fun e w' => ∃ a c, e = .returned (ptr w.heap.size 0) ∧ Box w' w.heap.size (fS (ptr q o) (ptr q2 o2) (ptr q3 o3) (.slice a x.zones.length c) n (-1) (.slice none 0 0) 0 (.slice none 0 0) 0 n false) ∧ w'.ownsRow (w.heap.size + 1) 2 1 (.slice a x.zones.length c) x.zones.length ((limL p x.zones g.most).map (Value.int .i64)) ∧ Below w.heap.size w w' := by
  have HM := Lib.hid hm; have HP := Lib.hid hp; have HG := Lib.hid hg
  have HKP := Lib.hid okp; have HZ := Lib.hid zo; have HN := Lib.hid hn
  have hl8 := zo.1.2
  have l1 := hm.lt
  have l2 := hp.lt
  have l3 := hg.snd.lt
  clear hm hp hg okp zo hn
  unfold ptr
  go_enter Tryz.func43, Tryz.ntmps43
  go_wp2_with fail
  obtain ⟨wA, hA⟩ : ∃ wA, wA = w.alloc (.cells #[.pointer (some ⟨q, o, none⟩), .pointer (some ⟨q2, o2, none⟩), .pointer (some ⟨q3, o3, none⟩), .slice none 0 0, .slice none 0 0, .int .i64 (-1), .int .i64 0, .bool false, .bool false, .slice none 0 0, .int .i64 (-1), .int .i64 0, .int .i64 0, .int .i64 (n : Int), .bool false] 65) := ⟨_, rfl⟩
  rw [← hA]
  have HBA := Lib.hid (show Below w.heap.size w wA by rw [hA]; (repeat (first | with_reducible exact Below.refl _ _ | with_reducible exact hbw | (with_reducible refine Below.setCell ?_ ?_ _; rotate_left; · first | exact Nat.le_refl _ | omega | (simp; done) | (simp; omega)) | (with_reducible refine Below.alloc ?_ ?_ _; rotate_left; · first | exact Nat.le_refl _ | omega | (simp; done) | (simp; omega)) | with_reducible refine below_drewN ?_ _ | with_reducible refine Below.drew ?_)))
  have BS := Lib.hid (show Box wA w.heap.size (fS (ptr q o) (ptr q2 o2) (ptr q3 o3) (.slice none 0 0) n (-1) (.slice none 0 0) 0 (.slice none 0 0) 0 n false) by
    rw [hA]; unfold fS; rw [Nat.sub_self]; exact Box.alloc w _ _ _ rfl)
  have hsA : wA.heap.size = w.heap.size + 1 := by rw [hA]; simp
  have HSA := Lib.hid hsA
  clear hA hsA
  go_loopw [10] (fun iv wr => ∃ (k : Nat) (a' : Option Addr) (c' : Nat), k ≤ x.zones.length ∧ iv = .int .i64 (k : Int) ∧ Box wr w.heap.size (fS (ptr q o) (ptr q2 o2) (ptr q3 o3) (.slice a' k c') n (-1) (.slice none 0 0) 0 (.slice none 0 0) 0 n false) ∧ wr.ownsRow (w.heap.size + 1) 2 1 (.slice a' k c') k (((limL p x.zones g.most).take k).map (Value.int .i64)) ∧ Below w.heap.size w wr) (fun iv _ => x.zones.length - (intOf iv).toNat)
  case atStart => exact ⟨0, none, 0, Nat.zero_le _, by go_num, BS.out, by simpa using owns_nil _ _ _ _, HBA.out⟩
  case round =>
    obtain ⟨k, a', c', hk, rfl, hbx, ho, hb⟩ := hrel
    have HBX := Lib.hid hbx; have HO := Lib.hid ho; have HB := Lib.hid hb
    have hz := hbx.lt
    have HIM := Lib.hid (HM.out.mono hb); have HIP := Lib.hid (HP.out.mono hb); have HIG := Lib.hid (HG.out.mono hb)
    clear hbx ho hb
    have z0 := HIM.out.c0
    by_cases hlt : k < x.zones.length
    · have g6 := HIG.out.c6
      have y0 := HBX.out.at' 0 _ rfl
      have y3 := HBX.out.at' 3 _ rfl
      have f3 := HBX.out.fr 3
      have q1 : q < wr.heap.size := by omega
      have q3' : q3 < wr.heap.size := by omega
      have ne1 : ¬ q = w.heap.size := by omega
      have ne3 : ¬ q3 = w.heap.size := by omega
      obtain ⟨r0, hr0⟩ : ∃ r0 : Int, r0 = limAt p x.zones g.most k := ⟨_, rfl⟩
      have HW := Lib.hid (limL_take (x := p) (most := g.most) hlt)
      rw [← hr0] at HW
      have HR0 := Lib.hid (show r0 = min g.most (mostV p x.zones k : Int) by rw [hr0]; unfold limAt; exact Int.min_comm _ _)
      clear hr0
      have n1 : ∀ y', (extT wr.drew w.heap.size wr.heap.size y').cell? ⟨q3, o3 + 6, none⟩ = some (.int .i64 g.most) := fun y' => (cell?_extT (w := wr.drew) q3' (.inl (by omega))).trans g6
      have n2 : ∀ y', (extT wr.drew w.heap.size wr.heap.size y').cell? ⟨q, o, none⟩ = some (.slice az x.zones.length cz) := fun y' => (cell?_extT (w := wr.drew) q1 (.inl (by omega))).trans z0
      have n3 : ∀ y', (ext wr.drew none y').cell? ⟨w.heap.size, 3, none⟩ = some (.slice a' k c') := fun y' => (cell?_ext (w := wr.drew) hz (by simp)).trans y3
      go_wp2_with fail
      refine wp_region_ord3 [(0, 1), (1, 1), (2, 1), (3, 1), (4, 3), (5, 1), (6, 1), (7, 1), (8, 1), (9, 1), (10, 1), (11, 1), (12, 1), (13, 1), (14, 1), (15, 4), (16, 4), (17, 4), (18, 0), (19, 1), (20, 1), (21, 0)] [15, 16, 17, 18, 21] [18, 21] (w.heap.size) (wr.heap.size) (by kernel_rfl) (by kernel_rfl) ?_
      (repeat ((first | with_reducible refine wpOrd3_soft (fun K hK => ?_) | with_reducible refine wpOrd3_pre (fun K hK => ?_) | with_reducible refine wpOrd3_late (fun K hK => ?_)); simp only [List.getElem?_toArray, List.getElem?_cons_zero, List.getElem?_cons_succ]; first | (go_simp; refine hK _ ?_) | (simp only [undef]; go_simp; refine hK _ ?_); clear hK K))
      ((first | with_reducible refine wpOrd3_hard ?_ | with_reducible refine wpOrd3_new ?_); simp only [List.getElem?_toArray, List.getElem?_cons_zero, List.getElem?_cons_succ])
      go_wp2_with fail
      refine (l09Most_any q2 o2 p _ x.zones k _ (HIP.out.mono (Below.refl _ _).drew) HN.out (Ints.mono HIM.out.z (Below.refl _ _).drew) HKP.out HZ.out hlt).mono ?_
      rintro e w3 ⟨rfl, hb3⟩
      have HBD := Lib.hid (grown_stepS (row := none) hb3)
      have hb3 : Below wr.heap.size wr w3 := undrew hb3
      have hz3 := hb3.size
      obtain ⟨mv, hmv⟩ : ∃ mv : Int, mv = (mostV p x.zones k : Int) := ⟨_, rfl⟩
      rw [← hmv] at HR0 ⊢
      clear hmv
      have HO3 := Lib.hid (owns_mono HO.out hb3)
      have HB3 := Lib.hid hb3
      clear hb3 g6 z0 y0 y3 f3 n1 n2 n3
      go_wp2_with fail
      refine And.intro HBD.out ?_
      (repeat ((first | with_reducible refine wpOrd3_soft (fun K hK => ?_) | with_reducible refine wpOrd3_pre (fun K hK => ?_) | with_reducible refine wpOrd3_late (fun K hK => ?_)); simp only [List.getElem?_toArray, List.getElem?_cons_zero, List.getElem?_cons_succ]; first | (go_simp; refine hK _ ?_) | (simp only [undef]; go_simp; refine hK _ ?_); clear hK K))
      ((first | with_reducible refine wpOrd3_hard ?_ | with_reducible refine wpOrd3_new ?_); simp only [List.getElem?_toArray, List.getElem?_cons_zero, List.getElem?_cons_succ])
      go_wp2_with fail
      refine (l00Min_any r0 g.most mv _ HR0.out).mono ?_
      rintro e w4 ⟨rfl, rfl⟩
      go_wp2_with fail
      refine And.intro HBD.out ?_
      (repeat ((first | with_reducible refine wpOrd3_soft (fun K hK => ?_) | with_reducible refine wpOrd3_pre (fun K hK => ?_) | with_reducible refine wpOrd3_late (fun K hK => ?_)); simp only [List.getElem?_toArray, List.getElem?_cons_zero, List.getElem?_cons_succ]; first | (go_simp; refine hK _ ?_) | (simp only [undef]; go_simp; refine hK _ ?_); clear hK K))
      ((first | with_reducible refine wpOrd3_hard ?_ | with_reducible refine wpOrd3_new ?_); simp only [List.getElem?_toArray, List.getElem?_cons_zero, List.getElem?_cons_succ])
      go_wp2_with fail
      refine And.intro (grown_transS HBD.out (grown_stepS (belowA _ _))) ?_
      (repeat ((first | with_reducible refine wpOrd3_soft (fun K hK => ?_) | with_reducible refine wpOrd3_pre (fun K hK => ?_) | with_reducible refine wpOrd3_late (fun K hK => ?_)); simp only [List.getElem?_toArray, List.getElem?_cons_zero, List.getElem?_cons_succ]; first | (go_simp; refine hK _ ?_) | (simp only [undef]; go_simp; refine hK _ ?_); clear hK K))
      ((first | with_reducible refine wpOrd3_hard ?_ | with_reducible refine wpOrd3_new ?_); simp only [List.getElem?_toArray, List.getElem?_cons_zero, List.getElem?_cons_succ])
      refine append_one_at rfl _ _ 22 rfl (w.heap.size + 1) 2 (.int .i64 0) 1 8 Tryz.underlying22 info_int rfl (by decide) _ k _ rfl HO3.out [.int .i64 r0] rfl (by simp [Value.oneCell']) w4.heap.size rfl rfl (by omega) (by decide) (by omega) ?_
      intro a7 c7 w7 ho7 hg7 hb7 _
      have HT7 := Lib.hid (show Touch w.heap.size wr.heap.size wr.drew w7 from ⟨hb7.os.trans HB3.out.os, hb7.tape.trans HB3.out.tape, hb7.output.trans HB3.out.output, Nat.le_trans HB3.out.size hb7.size, fun j hj hor => (hb7.block j (by have : j < wr.heap.size := hj; omega)).trans (HB3.out.block j hj)⟩)
      have HBX7 := Lib.hid ((HBX.out.mono HB3.out).step hb7 (Nat.lt_succ_self _))
      have HB7 := Lib.hid ((HB.out.trans (HB3.out.mono HB.out.size)).trans (hb7.mono (Nat.le_succ _)))
      have HO7 := Lib.hid ho7
      have y0 := HBX7.out.at' 0 _ rfl
      have y3 := HBX7.out.at' 3 _ rfl
      have f3 := HBX7.out.fr 3
      have hl7 := HBX7.out.lt
      clear ho7 hg7 hb7
      go_wp2_with fail
      refine And.intro HT7.out ?_
      (repeat ((first | with_reducible refine wpOrd3_soft (fun K hK => ?_) | with_reducible refine wpOrd3_pre (fun K hK => ?_) | with_reducible refine wpOrd3_late (fun K hK => ?_)); simp only [List.getElem?_toArray, List.getElem?_cons_zero, List.getElem?_cons_succ]; first | (go_simp; refine hK _ ?_) | (simp only [undef]; go_simp; refine hK _ ?_); clear hK K))
      ((first | with_reducible refine wpOrd3_hard ?_ | with_reducible refine wpOrd3_new ?_); simp only [List.getElem?_toArray, List.getElem?_cons_zero, List.getElem?_cons_succ])
      go_wp2_with fail
      refine And.intro (HT7.out.setCell (p := ⟨w.heap.size, 3, none⟩) (by simp; omega) _) ?_
      (with_reducible refine wpOrd3_nil ?_); refine NoPanic.normal ?_
      go_wp2
      go_roundw
      case rel =>
        refine ⟨k + 1, a7, c7, by omega, by go_num, ?_, ?_, ?_⟩
        · have hs := HBX7.out.set (j := 3) (.slice a7 (k + 1) c7) (by simp [fS])
          exact ⟨hs.lt, hs.at', hs.fr⟩
        · rw [HW.out]
          have := ownsRow_setCell_below (a := ⟨w.heap.size, 3, none⟩) HO7.out (by simp) (.slice a7 (k + 1) c7)
          simpa using this
        · exact (Touch.refl w.heap.size (w.heap.size + 1) w7).setCell (p := ⟨w.heap.size, 3, none⟩) ⟨Nat.le_refl _, Nat.lt_succ_self _⟩ _ |>.below HB7.out (Nat.le_refl _) HB7.out.size
      case measure => simp [intOf]; omega
    · obtain rfl : k = x.zones.length := by omega
      have hHO := HO.out
      rw [List.take_of_length_le (by rw [limL_len]; exact Nat.le_refl _)] at hHO
      have HO5 := Lib.hid hHO
      clear hHO
      have y0 := HBX.out.at' 0 _ rfl
      go_wp2
      go_ret
      exact ⟨_, _, rfl, HBX.out, HO5.out, HB.out⟩
end Go.Proofs.YtenedpboehkmjaaGreat
/- What a search asks of steps, plain. -/
set_option linter.unusedSimpArgs false
set_option linter.unnecessarySimpa false
set_option linter.unusedVariables false
set_option maxRecDepth 100000
namespace Go.Proofs.YtenedpboehkmjaaGreat
open Go.RowKit

def padL (n : Nat) (st : List Int) : List Int := st ++ List.replicate (n - st.length) 0
theorem padL_len {n : Nat} {st : List Int} (h : st.length ≤ n) : (padL n st).length = n := by simp [padL]; omega
theorem padL_at (n : Nat) (st : List Int) (z : Nat) : (padL n st).getD z 0 = st.getD z 0 := by
  unfold padL
  rw [List.getD_eq_getElem?_getD, List.getD_eq_getElem?_getD]
  by_cases h : z < st.length
  · rw [List.getElem?_append_left h]
  · rw [List.getElem?_append_right (by omega), List.getElem?_replicate, List.getElem?_eq_none (by omega)]
    split <;> rfl
theorem padL_stF (n : Nat) (st : List Int) : stF (padL n st) = stF st := funext fun z => padL_at n st z
theorem padL_full {n : Nat} {st : List Int} (h : st.length = n) : padL n st = st := by subst h; simp [padL]
theorem padL_nil (n : Nat) : padL n [] = List.replicate n 0 := by simp [padL]
theorem padL_set {n : Nat} {st : List Int} (h : st.length < n) (v : Int) : (padL n st).set st.length v = padL n (st ++ [v]) := by
  unfold padL
  rw [List.set_append_right _ _ (Nat.le_refl _), Nat.sub_self, List.length_append, List.length_singleton, show n - st.length = (n - (st.length + 1)) + 1 by omega, List.replicate_succ, List.set_cons_zero, List.append_assoc]
  rfl
theorem padL_back {n : Nat} {st : List Int} {v : Int} (h : st.length < n) : (padL n (st ++ [v])).set st.length 0 = padL n st := by
  rw [← padL_set h, List.set_set]
  have := padL_set h 0
  rw [this]
  unfold padL
  rw [List.length_append, List.length_singleton, show n - st.length = (n - (st.length + 1)) + 1 by omega, List.replicate_succ, List.append_assoc]
  rfl
theorem padL_again {n : Nat} {st : List Int} {v u : Int} (h : st.length < n) : (padL n (st ++ [v])).set st.length u = padL n (st ++ [u]) := by
  rw [← padL_set h, List.set_set, padL_set h]
theorem padL_take {n k : Nat} {st : List Int} (hk : k < st.length) (h : st.length ≤ n) : (padL n (st.take k)).set k (st.getD k 0) = padL n (st.take (k + 1)) := by
  have := padL_set (n := n) (st := st.take k) (by rw [List.length_take]; omega) (st.getD k 0)
  rw [List.length_take, Nat.min_eq_left (by omega)] at this
  rw [this, List.take_succ_eq_append_getElem hk]
  simp [hk]

theorem stIn_room {p : PrfD} {zs : List Int} {most : Int} {st : List Int} (h : stIn (limL p zs most) st) (hm : 0 ≤ most) : inRoom p zs (stF st) := fun z hz => by
  show 0 ≤ st.getD z 0 ∧ st.getD z 0 ≤ _
  by_cases e : z < st.length
  · have h1 := h z e
    rw [limL_at hz] at h1
    have h2 := limAt_bd (x := p) (zs := zs) (k := z) hm
    omega
  · rw [List.getD_eq_getElem?_getD, List.getElem?_eq_none (by omega)]
    show (0 : Int) ≤ 0 ∧ (0 : Int) ≤ _
    omega
theorem room_20 {p : PrfD} {zs : List Int} {st : List Int} (h : inRoom p zs (stF st)) : ∀ z, z < zs.length → 0 ≤ st.getD z 0 ∧ st.getD z 0 ≤ 20 := fun z hz => by
  have h1 := h z hz
  have h2 := mostV_le p zs z
  have e : stF st z = st.getD z 0 := rfl
  rw [e] at h1
  omega

def rawS (x : ModD) (p : PrfD) (st : List Int) : List Int := rawV x (turnP p x.zones (stF st))
theorem rawS_len (x : ModD) (p : PrfD) (st : List Int) : (rawS x p st).length = 5 := rawV_len _ _
theorem rawS_pad (x : ModD) (p : PrfD) (n : Nat) (st : List Int) : rawS x p (padL n st) = rawS x p st := by unfold rawS; rw [padL_stF]
def sOf (r : List Int) : SndD := ⟨r.getD 0 0, r.getD 1 0, r.getD 2 0, r.getD 3 0, r.getD 4 0⟩
theorem sOf_list : ∀ {r : List Int}, r.length = 5 → (sOf r).list = r
  | [a, b, c, d, e], _ => rfl
/-- Some partial is too low; the steps are a plan. -/
def lowP (x : ModD) (p : PrfD) (g : GoalD) (st : List Int) : Prop := ∃ k, k < 5 ∧ lowB g k ((rawS x p st).getD k 0) = true
def planP (x : ModD) (p : PrfD) (g : GoalD) (st : List Int) : Prop := sndOk (sOf (rawS x p st)) ∧ great (devs g.t (sOf (rawS x p st))) ≤ g.tol
instance (x : ModD) (p : PrfD) (g : GoalD) (st : List Int) : Decidable (planP x p g st) := by unfold planP; infer_instance
/-- Some of the first k partials is too low. -/
def lowK (x : ModD) (p : PrfD) (g : GoalD) (st : List Int) : Nat → Bool
  | 0 => false
  | k + 1 => lowK x p g st k || lowB g k ((rawS x p st).getD k 0)
theorem lowK_iff (x : ModD) (p : PrfD) (g : GoalD) (st : List Int) : ∀ k, lowK x p g st k = true ↔ ∃ i, i < k ∧ lowB g i ((rawS x p st).getD i 0) = true
  | 0 => by simp [lowK]
  | k + 1 => by
    unfold lowK
    rw [Bool.or_eq_true, lowK_iff x p g st k]
    constructor
    · rintro (⟨i, hi, h⟩ | h)
      · exact ⟨i, by omega, h⟩
      · exact ⟨k, by omega, h⟩
    · rintro ⟨i, hi, h⟩
      by_cases e : i = k
      · subst e; exact .inr h
      · exact .inl ⟨i, by omega, h⟩
theorem lowK_five (x : ModD) (p : PrfD) (g : GoalD) (st : List Int) : lowK x p g st 5 = true ↔ lowP x p g st := lowK_iff x p g st 5

/-- What lies in memory when a search of the reference begins. -/
structure EnvS (w : World) (q o : Nat) (x : ModD) (q2 o2 : Nat) (p : PrfD) (q3 o3 : Nat) (g : GoalD) : Prop where
  im : ∃ az cz ag cg ab cb, ModIn w q o x az cz ag cg ab cb
  ip : ∃ a c, PrfIn w q2 o2 p a c
  ig : GoalIn w q3 o3 g
  okm : modOk x
  okp : prfOk p
  okg : goalOk g
  zo : zonesOk p.rings.length x.zones
  hn : p.name.size ≤ maxLen
theorem EnvS.mono {w w' : World} {q o : Nat} {x : ModD} {q2 o2 : Nat} {p : PrfD} {q3 o3 : Nat} {g : GoalD} (h : EnvS w q o x q2 o2 p q3 o3 g) (hb : Below w.heap.size w w') : EnvS w' q o x q2 o2 p q3 o3 g := by
  obtain ⟨⟨az, cz, ag, cg, ab, cb, hm⟩, ⟨a, c, hp⟩, hg, h1, h2, h3, h4, h5⟩ := h
  exact ⟨⟨az, cz, ag, cg, ab, cb, hm.mono hb⟩, ⟨a, c, hp.mono hb⟩, hg.mono hb, h1, h2, h3, h4, h5⟩
end Go.Proofs.YtenedpboehkmjaaGreat
/- What ShortestPlan answers, plain. -/
set_option linter.unusedSimpArgs false
set_option linter.unnecessarySimpa false
set_option linter.unusedVariables false
set_option maxRecDepth 100000
namespace Go.Proofs.YtenedpboehkmjaaGreat
open Go.RowKit

noncomputable def spR (x : ModD) (p : PrfD) (g : GoalD) (n : Int) : PRes :=
  shortP (limL p x.zones g.most) (lowP x p g) (planP x p g) ((sumL (limL p x.zones g.most)).toNat + 1) 0 n.toNat
def plV (R : PRes) : List CutD := if R.found = true then cutsV R.st else []
def plC (R : PRes) : Int := if R.found = true then 0 else if R.spent = true then 5 else 3
theorem pl_yes {R : PRes} (h : R.found = true) : plV R = cutsV R.st ∧ plC R = 0 := ⟨if_pos h, if_pos h⟩
theorem pl_full {R : PRes} (h : R.found = false) (h2 : R.spent = true) : plV R = [] ∧ plC R = 5 := ⟨if_neg (by rw [h]; exact Bool.false_ne_true), (if_neg (by rw [h]; exact Bool.false_ne_true)).trans (if_pos h2)⟩
theorem pl_none {R : PRes} (h : R.found = false) (h2 : R.spent = false) : plV R = [] ∧ plC R = 3 := ⟨if_neg (by rw [h]; exact Bool.false_ne_true), (if_neg (by rw [h]; exact Bool.false_ne_true)).trans (if_neg (by rw [h2]; exact Bool.false_ne_true))⟩
noncomputable def spV (x : ModD) (p : PrfD) (g : GoalD) (n : Int) : List CutD := if seaC x p g n = 0 then plV (spR x p g n) else []
noncomputable def spC (x : ModD) (p : PrfD) (g : GoalD) (n : Int) : Int := if seaC x p g n = 0 then plC (spR x p g n) else seaC x p g n
theorem sp_ok {x : ModD} {p : PrfD} {g : GoalD} {n : Int} (h : seaC x p g n = 0) : spV x p g n = plV (spR x p g n) ∧ spC x p g n = plC (spR x p g n) := ⟨if_pos h, if_pos h⟩
theorem sp_bad {x : ModD} {p : PrfD} {g : GoalD} {n : Int} (h : ¬ seaC x p g n = 0) : spV x p g n = [] ∧ spC x p g n = seaC x p g n := ⟨if_neg h, if_neg h⟩
/-- What holds when a search may begin. -/
structure SeaOk (x : ModD) (p : PrfD) (g : GoalD) (n : Int) : Prop where
  okm : modOk x
  okp : prfOk p
  okg : goalOk g
  zo : zonesOk p.rings.length x.zones
  low : 1 ≤ n
  high : n ≤ 20000
theorem sea_zero {x : ModD} {p : PrfD} {g : GoalD} {n : Int} (h : seaC x p g n = 0) : SeaOk x p g n := by
  unfold seaC at h
  by_cases h1 : askC x p g = 0
  · rw [if_pos h1] at h
    by_cases h2 : 1 ≤ n ∧ n ≤ 20000
    · unfold askC at h1
      by_cases h3 : goalOk g
      · rw [if_pos h3] at h1
        unfold mCode at h1
        by_cases h4 : modOk x ∧ prfOk p
        · rw [if_pos h4] at h1
          by_cases h5 : zonesOk p.rings.length x.zones
          · exact ⟨h4.1, h4.2, h3, h5, h2.1, h2.2⟩
          · rw [if_neg h5] at h1; omega
        · rw [if_neg h4] at h1; omega
      · rw [if_neg h3] at h1; omega
    · rw [if_neg h2] at h; omega
  · rw [if_neg h1] at h; exact absurd h h1
theorem lim_bd {x : ModD} {p : PrfD} {g : GoalD} {n : Int} (h : SeaOk x p g n) : ∀ i, i < (limL p x.zones g.most).length → 0 ≤ (limL p x.zones g.most).getD i 0 ∧ (limL p x.zones g.most).getD i 0 ≤ 20 := fun i hi => by
  rw [limL_at (by rw [limL_len] at hi; exact hi)]
  have := limAt_bd (x := p) (zs := x.zones) (k := i) h.okg.2.2.1
  omega
theorem sum_bd {x : ModD} {p : PrfD} {g : GoalD} {n : Int} (h : SeaOk x p g n) : 0 ≤ sumL (limL p x.zones g.most) ∧ sumL (limL p x.zones g.most) ≤ 160 := by
  have h1 := sumL_bd (xs := limL p x.zones g.most) (lim_bd h) _ (Nat.le_refl _)
  rw [List.take_length, limL_len] at h1
  have := h.zo.1.2
  omega
theorem spV_len (x : ModD) (p : PrfD) (g : GoalD) (n : Int) : (spV x p g n).length ≤ 8 := by
  by_cases h : seaC x p g n = 0
  · rw [(sp_ok h).1]
    cases hf : (spR x p g n).found
    · unfold plV; rw [if_neg (by rw [hf]; exact Bool.false_ne_true)]; exact Nat.zero_le _
    · rw [(pl_yes hf).1]
      have h1 := shortP_len (low := lowP x p g) (plan := planP x p g) (fun i hi => ((lim_bd (sea_zero h)) i hi).1) _ 0 n.toNat hf
      have h2 := cutsFrom_len (spR x p g n).st (spR x p g n).st.length
      have h3 := (sea_zero h).zo.1.2
      have h4 : (spR x p g n).st.length = (limL p x.zones g.most).length := h1.1
      rw [limL_len] at h4
      unfold cutsV
      omega
  · rw [(sp_bad h).1]; exact Nat.zero_le _
theorem short_ok {lim : List Int} {low plan : List Int → Prop} (hl : ∀ i, i < lim.length → 0 ≤ lim.getD i 0) : ∀ n m left, (shortP lim low plan n m left).found = true → (shortP lim low plan n m left).spent = false
  | 0, m, left, h => by cases h
  | n + 1, m, left, h => by
    cases h1 : (runP lim low plan m lim.length [] left).found
    · cases h2 : (runP lim low plan m lim.length [] left).spent
      · rw [shortP_next h1 h2] at h ⊢
        exact short_ok hl n (m + 1) _ h
      · rw [shortP_spent h1 h2] at h; cases h
    · rw [shortP_found h1]
      exact ((runP_ok lim low plan m hl lim.length [] left (by simp) (stIn_nil _)).found h1).1
end Go.Proofs.YtenedpboehkmjaaGreat
/- The laws' copies of goals. -/
set_option linter.unusedSimpArgs false
set_option linter.unnecessarySimpa false
set_option linter.unusedVariables false
set_option maxRecDepth 100000
namespace Go.Proofs.YtenedpboehkmjaaGreat
open Go.RowKit

set_option maxHeartbeats 1000000 in
theorem toSound_any (s : SndD) (w : World) :
    Calls Tryz.prog 27 #[.agg #[.int .i64 s.a, .int .i64 s.b, .int .i64 s.c, .int .i64 s.d, .int .i64 s.e]] w fun e w' => e = .returned (.agg #[.int .i64 s.a, .int .i64 s.b, .int .i64 s.c, .int .i64 s.d, .int .i64 s.e]) ∧ Below w.heap.size w w' := by
  go_enter Tryz.func27, Tryz.ntmps27
  go_wp2
  refine bodyPost_ret (v := .agg #[.int .i64 s.a, .int .i64 s.b, .int .i64 s.c, .int .i64 s.d, .int .i64 s.e]) (by simp [results, Tryz.results27, go_sem]) rfl ⟨rfl, ?_⟩
  (repeat (first | with_reducible exact Below.refl _ _ | with_reducible exact hbw | (with_reducible refine Below.setCell ?_ ?_ _; rotate_left; · first | exact Nat.le_refl _ | omega | (simp; done) | (simp; omega)) | (with_reducible refine Below.alloc ?_ ?_ _; rotate_left; · first | exact Nat.le_refl _ | omega | (simp; done) | (simp; omega)) | with_reducible refine below_drewN ?_ _ | with_reducible refine Below.drew ?_))
set_option maxHeartbeats 1000000 in
theorem toGoalK (v : Value) (g : GoalD) (w : World) (h : v = g.val) :
    Calls Tryz.prog 9 #[v] w fun e w' => ∃ v', e = .returned v' ∧ v' = g.val ∧ Below w.heap.size w w' := by
  subst h
  go_enter Tryz.func9, Tryz.ntmps9
  unfold GoalD.val
  go_wp2_with fail
  refine (toSound_any g.t _).mono ?_
  rintro e w1 ⟨rfl, hb1⟩
  obtain ⟨hc, hf⟩ := bcell hb1
  have hz : w.heap.size + 1 + 1 < w1.heap.size := by have := hb1.size; simp at this; omega
  go_wp2
  refine bodyPost_ret (v := .agg #[.int .i64 g.t.a, .int .i64 g.t.b, .int .i64 g.t.c, .int .i64 g.t.d, .int .i64 g.t.e, .int .i64 g.tol, .int .i64 g.most]) (by simp [results, Tryz.results9, go_sem, hc, hz]) rfl ⟨_, rfl, rfl, ?_⟩
  have hbw : Below w.heap.size w w1 := Below.trans (by (repeat (first | with_reducible exact Below.refl _ _ | with_reducible exact hbw | (with_reducible refine Below.setCell ?_ ?_ _; rotate_left; · first | exact Nat.le_refl _ | omega | (simp; done) | (simp; omega)) | (with_reducible refine Below.alloc ?_ ?_ _; rotate_left; · first | exact Nat.le_refl _ | omega | (simp; done) | (simp; omega)) | with_reducible refine below_drewN ?_ _ | with_reducible refine Below.drew ?_))) (hb1.mono (by simp <;> omega))
  (repeat (first | with_reducible exact Below.refl _ _ | with_reducible exact hbw | (with_reducible refine Below.setCell ?_ ?_ _; rotate_left; · first | exact Nat.le_refl _ | omega | (simp; done) | (simp; omega)) | (with_reducible refine Below.alloc ?_ ?_ _; rotate_left; · first | exact Nat.le_refl _ | omega | (simp; done) | (simp; omega)) | with_reducible refine below_drewN ?_ _ | with_reducible refine Below.drew ?_))
end Go.Proofs.YtenedpboehkmjaaGreat
/- Contracts of the laws' helpers over slices of Cut: equality, marks; slices.Equal. -/
set_option linter.unusedSimpArgs false
set_option linter.unnecessarySimpa false
set_option linter.unusedVariables false
namespace Go.Proofs.YtenedpboehkmjaaGreat
open Go.RowKit

set_option maxHeartbeats 400000 in
theorem eqCutDs_any (v1 v2 : Value) (xs ys : List CutD) (w : World) (h1 : CutDs w v1 xs) (h2 : CutDs w v2 ys) :
    Calls Tryz.prog 11 #[v1, v2] w fun e w' => e = .returned (.bool (decide (xs = ys))) ∧ Below w.heap.size w w' := by
  obtain ⟨a, ca, rfl, hca, hcm, _⟩ := id h1
  obtain ⟨b, cb, rfl, _, _, _⟩ := id h2
  by_cases hl : xs.length = ys.length
  · have hm : xs.length ≤ maxLen := by omega
    clear hca hcm
    unfold maxLen at hm
    have hl1 : ((xs.length : Int) != (ys.length : Int)) = false := by rw [hl]; simp
    have HL := Lib.hid hl; clear hl
    go_enter Tryz.func11, Tryz.ntmps11
    go_wp2
    go_loopw [5] (fun i wr => ∃ k : Nat, k ≤ xs.length ∧ i = .int .i64 k ∧ xs.take k = ys.take k ∧ Below w.heap.size w wr) (fun i _ => xs.length - (intOf i).toNat)
    case atStart => exact ⟨0, Nat.zero_le _, rfl, by simp, Below.refl _ _⟩
    case round =>
      obtain ⟨k, hk, rfl, ht, hb⟩ := hrel
      have HT := Lib.hid ht; clear ht
      by_cases hlt : k < xs.length
      · have hk2 : k < ys.length := by rw [← HL.out]; exact hlt
        obtain ⟨b1, o1, rfl, hB1, c0, c1⟩ := (h1.mono hb).at hlt
        obtain ⟨b2, o2, rfl, hB2, d0, d1⟩ := (h2.mono hb).at hk2

        go_wp2
        refine wp_region_ord [(0, true), (1, true), (2, true), (3, true), (4, true), (5, true), (6, true), (7, true), (8, false), (9, true)] (none) (by kernel_rfl) (by kernel_rfl) ?_
        (repeat (with_reducible refine wpOrd_soft (fun K hK => ?_); simp only [List.getElem?_toArray, List.getElem?_cons_zero, List.getElem?_cons_succ]; first | (go_simp; refine hK _ ?_) | (simp only [undef]; go_simp; refine hK _ ?_); clear hK K))
        (with_reducible refine wpOrd_hard ?_; simp only [List.getElem?_toArray, List.getElem?_cons_zero, List.getElem?_cons_succ])
        go_wp2_with fail
        refine (eqCutD_any xs[k] ys[k] _).mono ?_
        rintro e w2 ⟨rfl, hb2⟩
        have hbr : Below wr.heap.size wr w2 := undrew hb2
        have hb3 : Below w.heap.size w w2 := hb.trans (hbr.mono hb.size)
        by_cases he : xs[k] = ys[k]
        rotate_left
        all_goals
          have HE := Lib.hid he
          first | have hd : decide (xs[k] = ys[k]) = false := by simpa using he
                | have hd : decide (xs[k] = ys[k]) = true := by simpa using he
          clear he
          go_wp2
          refine ⟨grown_of_below hbr, ?_⟩
          (repeat (with_reducible refine wpOrd_soft (fun K hK => ?_); simp only [List.getElem?_toArray, List.getElem?_cons_zero, List.getElem?_cons_succ]; first | (go_simp; refine hK _ ?_) | (simp only [undef]; go_simp; refine hK _ ?_); clear hK K))
          (with_reducible refine wpOrd_nil ?_); refine NoPanic.normal ?_
        · go_wp2
          go_ret
          exact ⟨ret_bool (by simpa using ne_of_get hlt hk2 (by simpa using HE.out)), hb3⟩
        · go_wp2
          go_roundw
          case rel => exact ⟨k + 1, by omega, by go_num, take_step hlt hk2 HT.out (by simpa using HE.out), hb3⟩
          case measure => simp [intOf]; omega
      · go_wp2
        go_ret
        exact ⟨ret_bool (by simpa using eq_of_take HL.out hlt HT.out), hb⟩
  · have hl1 : ((xs.length : Int) != (ys.length : Int)) = true := by simp; omega
    have hne : xs ≠ ys := fun e => hl (by rw [e])
    clear hl
    go_enter Tryz.func11, Tryz.ntmps11
    go_wp2
    go_ret
    exact ⟨ret_bool (by simpa using hne), Below.refl _ _⟩

set_option maxHeartbeats 400000 in
theorem markCutDs_any (v : Value) (n base : Nat) (te : TypeId) (cs : List Value) (k : Nat) (w : World) (ho : w.ownsRow base te 2 v n cs) (hk : k + 2 * n ≤ 1000000000) :
    Calls Tryz.prog 16 #[v, .int .i64 k] w fun e w' => e = .returned (.int .i64 ↑(k + n * 2)) ∧ w'.ownsRow base te 2 v n (marks k (n * 2)) ∧ w.grownBy w' v.ownBlock := by
  rcases id ho with ⟨hl, ⟨rfl, rfl⟩ | ⟨g, cap, cur, rfl, hbase, hg, hn, hc, hs, ht⟩⟩
  · have hcs : cs = [] := by simpa using hl
    subst hcs
    go_enter Tryz.func16, Tryz.ntmps16
    go_wp2
    refine wp_loop_rounds 1 ?_
    rw [rounds_succ]
    go_wp2
    go_ret
    exact ⟨by simp, by simpa [marks] using ho, World.grownBy.refl _ _⟩
  · clear hg ht hs
    unfold maxLen at hc
    have HL := Lib.hid hl; clear hl
    go_enter Tryz.func16, Tryz.ntmps16
    go_wp2
    go_loopw [1, 5] (fun q i wr => ∃ t : Nat, t ≤ n ∧ i = .int .i64 t ∧ q = .int .i64 ↑(k + t * 2) ∧ wr.ownsRow base te 2 (.slice (some ⟨g, 0, none⟩) n cap) n (marks k (t * 2) ++ cs.drop (t * 2)) ∧ w.grownBy wr (some g)) (fun _ i _ => n - (intOf i).toNat)
    case atStart => exact ⟨0, Nat.zero_le _, rfl, by simp, by simpa [marks] using ho, World.grownBy.refl _ _⟩
    case round =>
      obtain ⟨t, ht, rfl, rfl, hw, hg⟩ := hrel
      by_cases hlt : t < n
      · have hlen := HL.out
        have x0 : (marks k (t * 2) ++ cs.drop (t * 2))[t * 2]? = some (cs.getD (t * 2 + 0) .nilFunc) := marks_at _ _ _ 0 (by rw [hlen]; omega)
        have d0 : wr.cell? ⟨g, t * 2, none⟩ = some (cs.getD (t * 2 + 0) .nilFunc) := by rw [hw.cellAt _ (by omega)]; exact x0
        have f0 := hw.frozenAt (t * 2)
        have x1 : (marks k (t * 2) ++ cs.drop (t * 2))[t * 2 + 1]? = some (cs.getD (t * 2 + 1) .nilFunc) := marks_at _ _ _ 1 (by rw [hlen]; omega)
        have d1 : wr.cell? ⟨g, t * 2 + 1, none⟩ = some (cs.getD (t * 2 + 1) .nilFunc) := by rw [hw.cellAt _ (by omega)]; exact x1
        have f1 := hw.frozenAt (t * 2 + 1)
        have HW := Lib.hid hw
        clear hw hlen x0 x1
        go_wp2
        have hlen := HL.out
        have q0 := HW.out
        have q1 := (q0).stored (t * 2) (.int .i64 ↑(k + (t * 2)))
        rw [marks_set k (t * 2) cs (by rw [hlen]; omega)] at q1
        have q2 := (q1.1).stored (t * 2 + 1) (.int .i64 ↑(k + (t * 2 + 1)))
        rw [marks_set k (t * 2 + 1) cs (by rw [hlen]; omega)] at q2
        have z0 : ((k + (t * 2) : Nat) : Int) = (k : Int) + (t : Int) * 2 := by omega
        have z1 : ((k + (t * 2 + 1) : Nat) : Int) = (k : Int) + (t : Int) * 2 + 1 := by omega
        simp only [z0, z1] at q2 q1
        exact ⟨⟨t + 1, by omega, by go_num, by congr 1; omega, by rw [show (t + 1) * 2 = t * 2 + 2 by omega]; exact q2.1, grown_trans hg (grown_trans q1.2 q2.2)⟩, by simp [intOf]; omega⟩
      · go_wp2
        go_ret
        obtain rfl : t = n := by omega
        exact ⟨rfl, by have := hw; rw [List.drop_of_length_le (by rw [HL.out]; omega), List.append_nil] at this; exact this, hg⟩

set_option maxHeartbeats 400000 in
theorem heldCutDs_any (v : Value) (n k : Nat) (w : World) (h : Sl w v n (marks k (n * 2))) (hk : k + 2 * n ≤ 1000000000) :
    Calls Tryz.prog 17 #[v, .int .i64 k] w fun e w' => e = .returned (.int .i64 ↑(k + n * 2)) ∧ w' = w := by
  obtain ⟨a, cap, rfl, hn, hc, _⟩ := id h
  have hm : n ≤ 1000000000 := by omega
  clear hn hc
  go_enter Tryz.func17, Tryz.ntmps17
  go_wp2
  go_loop [1, 5] (fun q i => ∃ t : Nat, t ≤ n ∧ i = .int .i64 t ∧ q = .int .i64 ↑(k + t * 2)) (fun _ i => n - (intOf i).toNat)
  case atStart => exact ⟨0, Nat.zero_le _, rfl, by simp⟩
  case round =>
    obtain ⟨t, ht, rfl, rfl⟩ := hrel
    by_cases hlt : t < n
    · obtain ⟨b, off, rfl, c⟩ := h.cells (by rw [marks_len]; omega)
      have c0 : w.cell? ⟨b, off + t * 2, none⟩ = some (.int .i64 ((k : Int) + (t : Int) * 2)) := by have := c (t * 2 + 0) _ (marks_get k _ _ (by omega)); rw [show ((k + (t * 2 + 0) : Nat) : Int) = (k : Int) + (t : Int) * 2 by omega] at this; simpa [Nat.add_assoc] using this
      have c1 : w.cell? ⟨b, off + t * 2 + 1, none⟩ = some (.int .i64 ((k : Int) + (t : Int) * 2 + 1)) := by have := c (t * 2 + 1) _ (marks_get k _ _ (by omega)); rw [show ((k + (t * 2 + 1) : Nat) : Int) = (k : Int) + (t : Int) * 2 + 1 by omega] at this; simpa [Nat.add_assoc] using this
      clear c
      go_wp2
      exact ⟨⟨t + 1, by omega, by go_num, by congr 1; omega⟩, by simp [intOf]; omega⟩
    · go_wp2
      go_ret
      obtain rfl : t = n := by omega
      exact ⟨rfl, rfl⟩

end Go.Proofs.YtenedpboehkmjaaGreat
/- Contracts of cutsOf and l10Cuts: one cut for each zone with steps. -/
set_option linter.unusedSimpArgs false
set_option linter.unnecessarySimpa false
set_option linter.unusedVariables false
set_option maxRecDepth 100000
namespace Go.Proofs.YtenedpboehkmjaaGreat
open Go.RowKit

def OwnCutDs (B E : Nat) (w : World) (v : Value) (xs : List CutD) : Prop := OwnRow B E w 84 2 v xs.length (xs.flatMap CutD.cells)
set_option maxHeartbeats 1000000 in
theorem cutsOf_any (v : Value) (st : List Int) (w : World) (h : Ints w v st) (hl : st.length ≤ 8) :
    Calls Tryz.prog 56 #[v] w fun e w' => ∃ v', e = .returned v' ∧ OwnCutDs w.heap.size w'.heap.size w' v' (cutsV st) ∧ Below w.heap.size w w' := by
  obtain ⟨a, ca, rfl, _⟩ := id h
  go_enter Tryz.func56, Tryz.ntmps56
  go_wp2_with fail
  go_loopw [3, 4, 5, 8] (fun cv _ _ iv wr => ∃ (k m : Nat) (a' : Option Addr) (c' : Nat), k ≤ st.length ∧ iv = .int .i64 (k : Int) ∧ cv = .slice a' m c' ∧ m = (cutsFrom st k).length ∧ wr.ownsRow w.heap.size 84 2 (.slice a' m c') m ((cutsFrom st k).flatMap CutD.cells) ∧ Below w.heap.size w wr) (fun _ _ _ iv _ => st.length - (intOf iv).toNat)
  case atStart => exact ⟨0, 0, none, 0, Nat.zero_le _, by go_num, rfl, rfl, owns_nil _ _ _ _, Below.refl _ _⟩
  case round =>
    obtain ⟨k, m, a', c', hk, rfl, rfl, hm, ho, hb⟩ := hrel
    have HO := Lib.hid ho; have HM := Lib.hid hm
    clear ho
    by_cases hlt : k < st.length
    · skip
      obtain ⟨b1, o1, rfl, c1⟩ := (Ints.mono h hb).cells (by simp; omega)
      have d1 := c1 k (.int .i64 (st.getD k 0)) (by simp [hlt])
      have ml := cutsFrom_len st k
      rw [← hm] at ml
      obtain ⟨s0, hs0⟩ : ∃ s0, s0 = st.getD k 0 := ⟨_, rfl⟩
      rw [← hs0] at d1
      have hkI : (k : Int) < (st.length : Int) := by omega
      have hzr := hb.size
      clear c1
      by_cases hp : 0 < s0
      · have HX := Lib.hid (show cutsFrom st (k + 1) = cutsFrom st k ++ [⟨(k : Int), s0⟩] by rw [hs0]; exact cuts_yes (by rw [← hs0]; exact hp))
        clear hs0 hm
        go_wp2_with (at_builtin; refine append_one_at rfl _ _ 35 rfl w.heap.size 84 _ 2 16 Tryz.underlying35 info_Cut rfl (by decide) _ m _ rfl HO.out [.int .i64 (k : Int), .int .i64 s0] rfl (by intro u hu; simp at hu; rcases hu with rfl | rfl <;> rfl) wr.heap.size rfl rfl (by omega) (by decide) (by omega) ?_)
        intro a5 c5 w5 ho5 hg5 hb5 _
        have HO5 := Lib.hid ho5
        have HB5 := Lib.hid (hb.trans hb5)
        clear ho5 hg5 hb5
        go_wp2
        go_roundw
        case rel => exact ⟨k + 1, m + 1, a5, c5, by omega, by go_num, rfl, by rw [HX.out, List.length_append, HM.out]; rfl, by rw [HX.out, List.flatMap_append]; simpa [CutD.cells] using HO5.out, HB5.out⟩
        case measure => simp [intOf] <;> omega
      · have HX := Lib.hid (show cutsFrom st (k + 1) = cutsFrom st k from cuts_no (by rw [← hs0]; exact hp))
        clear hs0 hm
        go_wp2
        go_roundw
        case rel => exact ⟨k + 1, m, a', c', by omega, by go_num, rfl, by rw [HX.out]; exact HM.out, by rw [HX.out]; exact HO.out, hb⟩
        case measure => simp [intOf] <;> omega
    · obtain rfl : k = st.length := by omega
      have HB := Lib.hid hb
      subst hm
      clear hb
      go_wp2
      go_ret
      exact ⟨_, rfl, OwnRow.mk' HO.out, HB.out⟩
set_option maxHeartbeats 1000000 in
theorem l10Cuts_any (v : Value) (st : List Int) (w : World) (h : Ints w v st) (hl : st.length ≤ 8) :
    Calls Tryz.prog 23 #[v] w fun e w' => ∃ v', e = .returned v' ∧ OwnCutDs w.heap.size w'.heap.size w' v' (cutsV st) ∧ Below w.heap.size w w' := by
  obtain ⟨a, ca, rfl, _⟩ := id h
  go_enter Tryz.func23, Tryz.ntmps23
  go_wp2_with fail
  go_loopw [3, 4] (fun cv iv wr => ∃ (k m : Nat) (a' : Option Addr) (c' : Nat), k ≤ st.length ∧ iv = .int .i64 (k : Int) ∧ cv = .slice a' m c' ∧ m = (cutsFrom st k).length ∧ wr.ownsRow w.heap.size 84 2 (.slice a' m c') m ((cutsFrom st k).flatMap CutD.cells) ∧ Below w.heap.size w wr) (fun _ iv _ => st.length - (intOf iv).toNat)
  case atStart => exact ⟨0, 0, _, 0, Nat.zero_le _, by go_num, rfl, rfl, by simpa [cutsFrom] using owns_empty w 84 2 _ (Nat.le_refl _), by (repeat (first | with_reducible exact Below.refl _ _ | with_reducible exact hbw | (with_reducible refine Below.setCell ?_ ?_ _; rotate_left; · first | exact Nat.le_refl _ | omega | (simp; done) | (simp; omega)) | (with_reducible refine Below.alloc ?_ ?_ _; rotate_left; · first | exact Nat.le_refl _ | omega | (simp; done) | (simp; omega)) | with_reducible refine below_drewN ?_ _ | with_reducible refine Below.drew ?_))⟩
  case round =>
    obtain ⟨k, m, a', c', hk, rfl, rfl, hm, ho, hb⟩ := hrel
    have HO := Lib.hid ho; have HM := Lib.hid hm
    clear ho
    by_cases hlt : k < st.length
    · skip
      obtain ⟨b1, o1, rfl, c1⟩ := (Ints.mono h hb).cells (by simp; omega)
      have d1 := c1 k (.int .i64 (st.getD k 0)) (by simp [hlt])
      have ml := cutsFrom_len st k
      rw [← hm] at ml
      obtain ⟨s0, hs0⟩ : ∃ s0, s0 = st.getD k 0 := ⟨_, rfl⟩
      rw [← hs0] at d1
      have hkI : (k : Int) < (st.length : Int) := by omega
      have hzr := hb.size
      clear c1
      by_cases hp : 0 < s0
      · have HX := Lib.hid (show cutsFrom st (k + 1) = cutsFrom st k ++ [⟨(k : Int), s0⟩] by rw [hs0]; exact cuts_yes (by rw [← hs0]; exact hp))
        clear hs0 hm
        go_wp2_with (at_builtin; refine append_one_at rfl _ _ 35 rfl w.heap.size 84 _ 2 16 Tryz.underlying35 info_Cut rfl (by decide) _ m _ rfl HO.out [.int .i64 (k : Int), .int .i64 s0] rfl (by intro u hu; simp at hu; rcases hu with rfl | rfl <;> rfl) wr.heap.size rfl rfl (by omega) (by decide) (by omega) ?_)
        intro a5 c5 w5 ho5 hg5 hb5 _
        have HO5 := Lib.hid ho5
        have HB5 := Lib.hid (hb.trans hb5)
        clear ho5 hg5 hb5
        go_wp2
        go_roundw
        case rel => exact ⟨k + 1, m + 1, a5, c5, by omega, by go_num, rfl, by rw [HX.out, List.length_append, HM.out]; rfl, by rw [HX.out, List.flatMap_append]; simpa [CutD.cells] using HO5.out, HB5.out⟩
        case measure => simp [intOf] <;> omega
      · have HX := Lib.hid (show cutsFrom st (k + 1) = cutsFrom st k from cuts_no (by rw [← hs0]; exact hp))
        clear hs0 hm
        go_wp2
        go_roundw
        case rel => exact ⟨k + 1, m, a', c', by omega, by go_num, rfl, by rw [HX.out]; exact HM.out, by rw [HX.out]; exact HO.out, hb⟩
        case measure => simp [intOf] <;> omega
    · obtain rfl : k = st.length := by omega
      have HB := Lib.hid hb
      subst hm
      clear hb
      go_wp2
      go_ret
      exact ⟨_, rfl, OwnRow.mk' HO.out, HB.out⟩
end Go.Proofs.YtenedpboehkmjaaGreat
