/- Contract of tuneOf. -/
import Derived.Test.YthnnjjcopehccaaSortS
import Derived.Test.YthnnjjcopehccaaKTun
import Derived.Test.YthnnjjcopehccaaValidTunI
set_option linter.unusedSimpArgs false
set_option linter.unnecessarySimpa false
set_option linter.unusedVariables false
set_option maxRecDepth 100000
namespace Go.Proofs.Ythnnjjcopehccaa
open Go.RowKit

instance (x y : Ton) : Decidable (leT x y) := by unfold leT; infer_instance
/-- A row of tones in order. -/
def sortT (d : List Ton) : List Ton := d.mergeSort fun x y => decide (leT x y)
theorem sortT_perm (d : List Ton) : (sortT d).Perm d := List.mergeSort_perm _ _
theorem sortT_srt (d : List Ton) : Srt (sortT d) := by
  have h := List.pairwise_mergeSort (le := fun x y : Ton => decide (leT x y)) (by intro a b c h1 h2; simp at *; exact leT_trans h1 h2) (by intro a b; simp; exact leT_total a b) d
  exact h.imp fun h => by simpa using h
/-- Rows in strict order have no two orders. -/
def Stc (d : List Ton) : Prop := d.Pairwise before
theorem stc_uniq : ∀ (a b : List Ton), Stc a → Srt b → a.Perm b → a = b
  | [], b, _, _, p => (List.nil_perm.1 p).symm
  | x :: a, [], _, _, p => absurd p.length_eq (by simp)
  | x :: a, y :: b, ha, hb, p => by
    have ha' := List.pairwise_cons.1 ha
    have hb' := List.pairwise_cons.1 hb
    have e : x = y := by
      have m1 : y ∈ x :: a := p.mem_iff.2 (List.mem_cons_self ..)
      have m2 : x ∈ y :: b := p.mem_iff.1 (List.mem_cons_self ..)
      rcases List.mem_cons.1 m1 with h | h
      · exact h.symm
      · rcases List.mem_cons.1 m2 with h' | h'
        · exact h'
        · exact absurd (ha'.1 y h) (hb'.1 x h')
    subst e
    rw [stc_uniq a b ha'.2 hb'.2 (List.Perm.cons_inv p)]
theorem tones_stc {d : List Ton} (h : TonesOk d) : Stc d := by
  rw [Stc, List.pairwise_iff_getElem]
  intro i j hi hj hij
  induction j with
  | zero => omega
  | succ j ih =>
    have h1 := (h (j + 1) hj hj).2 (by omega)
    simp only [Nat.add_sub_cancel] at h1
    rcases Nat.lt_or_eq_of_le (Nat.le_of_lt_succ hij) with h2 | h2
    · exact before_trans (ih (by omega) h2) h1
    · subst h2; exact h1
/-- Whatever order a sort leaves, a tune of it is right if one is, and then is that one. -/
theorem ord_eq {d d1 d2 : List Ton} (p1 : d1.Perm d) (p2 : d2.Perm d) (s1 : Srt d1) (s2 : Srt d2) (h : TonesOk d1) : d1 = d2 := stc_uniq _ _ (tones_stc h) s2 (p1.trans p2.symm)

/-- What tuneOf and its like answer. -/
noncomputable def toV (name : ByteArray) (d : List Ton) : TunD := if validTunB ⟨name, sortT d⟩ = true then ⟨name, sortT d⟩ else ⟨.empty, []⟩
noncomputable def toC (name : ByteArray) (d : List Ton) : Int := if validTunB ⟨name, sortT d⟩ = true then 0 else 6
theorem to_yes {name : ByteArray} {d d1 : List Ton} (p1 : d1.Perm d) (s1 : Srt d1) (h : validTunB ⟨name, d1⟩ = true) : toV name d = ⟨name, d1⟩ ∧ toC name d = 0 := by
  have h1 : TunOk ⟨name, d1⟩ := by simpa [validTunB] using h
  have e := ord_eq p1 (sortT_perm d) s1 (sortT_srt d) h1.tones
  unfold toV toC
  rw [← e, if_pos h, if_pos h]; exact ⟨rfl, rfl⟩
theorem to_no {name : ByteArray} {d d1 : List Ton} (p1 : d1.Perm d) (s1 : Srt d1) (h : validTunB ⟨name, d1⟩ = false) : toV name d = ⟨.empty, []⟩ ∧ toC name d = 6 := by
  have h2 : ¬ validTunB ⟨name, sortT d⟩ = true := by
    intro h3
    have h4 : TunOk ⟨name, sortT d⟩ := by simpa [validTunB] using h3
    have e := ord_eq (sortT_perm d) p1 (sortT_srt d) s1 h4.tones
    rw [e, h] at h3; cases h3
  unfold toV toC
  rw [if_neg h2, if_neg h2]; exact ⟨rfl, rfl⟩
theorem ownT_zero (B E : Nat) (w : World) : OwnTun B E w (.agg #[.string .empty, .slice none 0 0]) ⟨.empty, []⟩ := ⟨_, rfl, owns_nil _ _ _ _, fun k hk => by simp [Value.ownBlock] at hk⟩
theorem touch_cell {B E : Nat} {w w' : World} (h : Touch B E w w') {p : Addr} {v : Value} (hp : p.block < w.heap.size) (ho : p.block < B ∨ E ≤ p.block) (hc : w.cell? p = some v) : w'.cell? p = some v := by
  have := h.block p.block hp ho
  unfold World.cell? at *
  rw [this]; exact hc
theorem touch_frozen {B E : Nat} {w w' : World} (h : Touch B E w w') {p : Addr} {v : Bool} (hp : p.block < w.heap.size) (ho : p.block < B ∨ E ≤ p.block) (hc : w.frozen? p = v) : w'.frozen? p = v := by
  have := h.block p.block hp ho
  unfold World.frozen? at *
  rw [this]; exact hc

set_option maxHeartbeats 1000000 in
theorem tuneOf_any (B n : Nat) (name : ByteArray) (v : Value) (d : List Ton) (w : World) (h : OwnRow B w.heap.size w 30 3 v n (d.flatMap Ton.cells)) (hd : d.length = n) (hn : n ≤ 1000000) (hs : name.size ≤ maxLen) (hB : B ≤ w.heap.size) :
    Calls Try.prog 20 #[.string name, v] w fun e w' => ∃ v', e = .returned (.tuple #[v', .int .i64 (toC name d)]) ∧ OwnTun B w'.heap.size w' v' (toV name d) ∧ Touch B w.heap.size w w' := by
  obtain ⟨a, cap, rfl⟩ := h.form
  go_enter Try.func20, Try.ntmps20
  go_wp2_with fail
  refine (sortS_any B w.heap.size n _ d _ (h.mono (by (repeat (first | with_reducible exact Below.refl _ _ | with_reducible exact hbw | (with_reducible refine Below.setCell ?_ ?_ _; rotate_left; · first | exact Nat.le_refl _ | omega | (simp; done) | (simp; omega)) | (with_reducible refine Below.alloc ?_ ?_ _; rotate_left; · first | exact Nat.le_refl _ | omega | (simp; done) | (simp; omega)) | with_reducible refine below_drewN ?_ _ | with_reducible refine Below.drew ?_)))) hd hn).mono ?_
  rintro e w1 ⟨rfl, ⟨d1, p1, s1, ho⟩, ht⟩
  have hz : w.heap.size + 2 ≤ w1.heap.size := by have := ht.size; simp at this; omega
  have y0 : w1.cell? ⟨w.heap.size + 1, 0, none⟩ = some (.string name) := touch_cell ht (by simp <;> omega) (Or.inr (by simp)) (by first | (simp [go_sem]; done) | (simp [go_sem]; rfl))
  have y1 : w1.cell? ⟨w.heap.size + 1, 1, none⟩ = some (.slice a n cap) := touch_cell ht (by simp <;> omega) (Or.inr (by simp)) (by first | (simp [go_sem]; done) | (simp [go_sem]; rfl))
  have r0 : w1.cell? ⟨w.heap.size, 0, none⟩ = some (.string .empty) := touch_cell ht (by simp <;> omega) (Or.inr (by simp)) (by first | (simp [go_sem]; done) | (simp [go_sem]; rfl))
  have r1 : w1.cell? ⟨w.heap.size, 1, none⟩ = some (.slice none 0 0) := touch_cell ht (by simp <;> omega) (Or.inr (by simp)) (by first | (simp [go_sem]; done) | (simp [go_sem]; rfl))
  have f0 : w1.frozen? ⟨w.heap.size, 0, none⟩ = false := touch_frozen ht (by simp <;> omega) (Or.inr (by simp)) (by first | (simp [go_sem]; done) | (simp [go_sem]; rfl))
  have f1 : w1.frozen? ⟨w.heap.size, 1, none⟩ = false := touch_frozen ht (by simp <;> omega) (Or.inr (by simp)) (by first | (simp [go_sem]; done) | (simp [go_sem]; rfl))
  have hl1 : d1.length = n := by rw [p1.length_eq]; exact hd
  have hto : Tun w1 (.agg #[.string name, .slice a n cap]) (.slice a n cap) ⟨name, d1⟩ := ⟨rfl, by have h3 := ho.1; rw [← hl1] at h3 ⊢; exact Tons.of_owns h3⟩
  have htc : Touch B w.heap.size w w1 := by
    refine Touch.trans ?_ ht
    (repeat (first | with_reducible exact Touch.refl _ _ _ | with_reducible exact htc | (with_reducible refine Touch.setCell ?_ ?_ _; rotate_left; · (simp only; omega)) | (with_reducible refine Touch.setNew ?_ ?_ _; rotate_left; · (first | (simp only; omega) | (simp; done) | (simp; omega))) | with_reducible refine Touch.alloc ?_ _ | with_reducible refine Touch.drewN ?_ _ | with_reducible refine Touch.drew ?_))
  have HO := Lib.hid ho; have HTo := Lib.hid hto; have P1 := Lib.hid p1; have S1 := Lib.hid s1; have HL := Lib.hid hl1
  clear ho hto p1 s1 ht hl1 hd
  go_wp2_with fail
  refine (implValidTun_any _ _ ⟨name, d1⟩ _ HTo.out hs).mono ?_
  rintro e w2 ⟨rfl, hb⟩
  have y0 := cellB hb y0
  have y1 := cellB hb y1
  have r0 := cellB hb r0
  have r1 := cellB hb r1
  have f0 := frozenL hb (by simp; omega) f0
  have f1 := frozenL hb (by simp; omega) f1
  have hz0 : w.heap.size + 2 ≤ w2.heap.size := by have := hb.size; omega
  have htc : Touch B w.heap.size w w2 := Touch.step htc hb (by omega)
  have HO2 := Lib.hid (HO.out.mono hb)
  clear HO hz
  have hz1 : w.heap.size < w2.heap.size := by omega
  have hz2 : w.heap.size + 1 < w2.heap.size := by omega
  by_cases hv : validTunB ⟨name, d1⟩ = true
  · obtain ⟨e1, e2⟩ := to_yes P1.out S1.out hv
    have E1 := Lib.hid e1; have E2 := Lib.hid e2
    rw [hv]
    have HL' := Lib.hid (show n = d1.length from HL.out.symm)
    clear e1 e2 hv
    go_wp2
    refine bodyPost_ret (v := .tuple #[.agg #[.string name, .slice a n cap], .int .i64 0]) (by simp [results, Try.results20, go_sem, hz0, hz1, hz2, r0, r1]) rfl ⟨_, by rw [E2.out], ?_, ?_⟩
    · rw [E1.out]
      refine ⟨_, rfl, ?_⟩
      have h3 := HO2.out
      rw [HL'.out] at h3 ⊢
      refine (h3.touch (B' := w.heap.size) (E' := w.heap.size + 1) ?_ (Or.inl (Nat.le_refl _))).wide (Nat.le_refl _) (by simp; omega)
      have htc := Touch.refl w.heap.size (w.heap.size + 1) w2
      (repeat (first | with_reducible exact Touch.refl _ _ _ | with_reducible exact htc | (with_reducible refine Touch.setCell ?_ ?_ _; rotate_left; · (simp only; omega)) | (with_reducible refine Touch.setNew ?_ ?_ _; rotate_left; · (first | (simp only; omega) | (simp; done) | (simp; omega))) | with_reducible refine Touch.alloc ?_ _ | with_reducible refine Touch.drewN ?_ _ | with_reducible refine Touch.drew ?_))
    · (repeat (first | with_reducible exact Touch.refl _ _ _ | with_reducible exact htc | (with_reducible refine Touch.setCell ?_ ?_ _; rotate_left; · (simp only; omega)) | (with_reducible refine Touch.setNew ?_ ?_ _; rotate_left; · (first | (simp only; omega) | (simp; done) | (simp; omega))) | with_reducible refine Touch.alloc ?_ _ | with_reducible refine Touch.drewN ?_ _ | with_reducible refine Touch.drew ?_))
  · have hv' : validTunB ⟨name, d1⟩ = false := by simpa using hv
    obtain ⟨e1, e2⟩ := to_no P1.out S1.out hv'
    have E1 := Lib.hid e1; have E2 := Lib.hid e2
    rw [hv']
    clear e1 e2 hv hv'
    go_wp2
    refine bodyPost_ret (v := .tuple #[.agg #[.string ⟨#[]⟩, .slice none 0 0], .int .i64 6]) (by simp [results, Try.results20, go_sem, hz0, hz1, hz2, r0, r1]) rfl ⟨_, by rw [E2.out], by rw [E1.out]; exact ownT_zero _ _ _, ?_⟩
    (repeat (first | with_reducible exact Touch.refl _ _ _ | with_reducible exact htc | (with_reducible refine Touch.setCell ?_ ?_ _; rotate_left; · (simp only; omega)) | (with_reducible refine Touch.setNew ?_ ?_ _; rotate_left; · (first | (simp only; omega) | (simp; done) | (simp; omega))) | with_reducible refine Touch.alloc ?_ _ | with_reducible refine Touch.drewN ?_ _ | with_reducible refine Touch.drew ?_))

end Go.Proofs.Ythnnjjcopehccaa
