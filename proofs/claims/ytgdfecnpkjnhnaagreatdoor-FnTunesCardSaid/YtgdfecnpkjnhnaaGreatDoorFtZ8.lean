import Derived.Test.YtgdfecnpkjnhnaaGreatDoorFtZ7
import Derived.Test.YtgdfecnpkjnhnaaGreatDoorFtZ3
import Derived.Test.YtgdfecnpkjnhnaaGreatDoorFtZ1
import Derived.Test.YtgdfecnpkjnhnaaGreatDoorFtZ4
/- Contract of tuneOf. -/
set_option linter.unusedSimpArgs false
set_option linter.unnecessarySimpa false
set_option linter.unusedVariables false
set_option maxRecDepth 100000
namespace Go.Proofs.YtgdfecnpkjnhnaaGreatDoor
open Go.RowKit

instance (x y : Ton) : Decidable (leT x y) := by unfold leT; infer_instance
/-- A row of tones in order. -/
def sortT (d : List Ton) : List Ton := d.mergeSort fun x y => decide (leT x y)
theorem sortT_perm (d : List Ton) : (sortT d).Perm d := List.mergeSort_perm _ _
theorem sortT_srt (d : List Ton) : Srt (sortT d) := by
  have h := List.pairwise_mergeSort (le := fun x y : Ton => decide (leT x y)) (by intro a b c h1 h2; simp at *; exact leT_trans h1 h2) (by intro a b; simp; exact leT_total a b) d
  exact h.imp fun h => by simpa using h
/-- Rows in strict order have no two orders. -/
def Stc (d : List Ton) : Prop := d.Pairwise before
theorem stc_uniq : ∀ (a b : List Ton), Stc a → Srt b → a.Perm b → a = b
  | [], b, _, _, p => (List.nil_perm.1 p).symm
  | x :: a, [], _, _, p => absurd p.length_eq (by simp)
  | x :: a, y :: b, ha, hb, p => by
    have ha' := List.pairwise_cons.1 ha
    have hb' := List.pairwise_cons.1 hb
    have e : x = y := by
      have m1 : y ∈ x :: a := p.mem_iff.2 (List.mem_cons_self ..)
      have m2 : x ∈ y :: b := p.mem_iff.1 (List.mem_cons_self ..)
      rcases List.mem_cons.1 m1 with h | h
      · exact h.symm
      · rcases List.mem_cons.1 m2 with h' | h'
        · exact h'
        · exact absurd (ha'.1 y h) (hb'.1 x h')
    subst e
    rw [stc_uniq a b ha'.2 hb'.2 (List.Perm.cons_inv p)]
theorem tones_stc {d : List Ton} (h : TonesOk d) : Stc d := by
  rw [Stc, List.pairwise_iff_getElem]
  intro i j hi hj hij
  induction j with
  | zero => omega
  | succ j ih =>
    have h1 := (h (j + 1) hj hj).2 (by omega)
    simp only [Nat.add_sub_cancel] at h1
    rcases Nat.lt_or_eq_of_le (Nat.le_of_lt_succ hij) with h2 | h2
    · exact before_trans (ih (by omega) h2) h1
    · subst h2; exact h1
/-- Whatever order a sort leaves, a tune of it is right if one is, and then is that one. -/
theorem ord_eq {d d1 d2 : List Ton} (p1 : d1.Perm d) (p2 : d2.Perm d) (s1 : Srt d1) (s2 : Srt d2) (h : TonesOk d1) : d1 = d2 := stc_uniq _ _ (tones_stc h) s2 (p1.trans p2.symm)

/-- What tuneOf and its like answer. -/
noncomputable def toV (name : ByteArray) (d : List Ton) : TunD := if validTunB ⟨name, sortT d⟩ = true then ⟨name, sortT d⟩ else ⟨.empty, []⟩
noncomputable def toC (name : ByteArray) (d : List Ton) : Int := if validTunB ⟨name, sortT d⟩ = true then 0 else 6
theorem to_yes {name : ByteArray} {d d1 : List Ton} (p1 : d1.Perm d) (s1 : Srt d1) (h : validTunB ⟨name, d1⟩ = true) : toV name d = ⟨name, d1⟩ ∧ toC name d = 0 := by
  have h1 : TunOk ⟨name, d1⟩ := by simpa [validTunB] using h
  have e := ord_eq p1 (sortT_perm d) s1 (sortT_srt d) h1.tones
  unfold toV toC
  rw [← e, if_pos h, if_pos h]; exact ⟨rfl, rfl⟩
theorem to_no {name : ByteArray} {d d1 : List Ton} (p1 : d1.Perm d) (s1 : Srt d1) (h : validTunB ⟨name, d1⟩ = false) : toV name d = ⟨.empty, []⟩ ∧ toC name d = 6 := by
  have h2 : ¬ validTunB ⟨name, sortT d⟩ = true := by
    intro h3
    have h4 : TunOk ⟨name, sortT d⟩ := by simpa [validTunB] using h3
    have e := ord_eq (sortT_perm d) p1 (sortT_srt d) s1 h4.tones
    rw [e, h] at h3; cases h3
  unfold toV toC
  rw [if_neg h2, if_neg h2]; exact ⟨rfl, rfl⟩
theorem ownT_zero (B E : Nat) (w : World) : OwnTun B E w (.agg #[.string .empty, .slice none 0 0]) ⟨.empty, []⟩ := ⟨_, rfl, owns_nil _ _ _ _, fun k hk => by simp [Value.ownBlock] at hk⟩
theorem touch_cell {B E : Nat} {w w' : World} (h : Touch B E w w') {p : Addr} {v : Value} (hp : p.block < w.heap.size) (ho : p.block < B ∨ E ≤ p.block) (hc : w.cell? p = some v) : w'.cell? p = some v := by
  have := h.block p.block hp ho
  unfold World.cell? at *
  rw [this]; exact hc
theorem touch_frozen {B E : Nat} {w w' : World} (h : Touch B E w w') {p : Addr} {v : Bool} (hp : p.block < w.heap.size) (ho : p.block < B ∨ E ≤ p.block) (hc : w.frozen? p = v) : w'.frozen? p = v := by
  have := h.block p.block hp ho
  unfold World.frozen? at *
  rw [this]; exact hc

set_option maxHeartbeats 1000000 in
theorem tuneOf_any (B n : Nat) (name : ByteArray) (v : Value) (d : List Ton) (w : World) (h : OwnRow B w.heap.size w 50 3 v n (d.flatMap Ton.cells)) (hd : d.length = n) (hn : n ≤ 1000000) (hs : name.size ≤ maxLen) (hB : B ≤ w.heap.size) :
    Calls Tryz.prog 45 #[.string name, v] w fun e w' => ∃ v', e = .returned (.tuple #[v', .int .i64 (toC name d)]) ∧ OwnTun B w'.heap.size w' v' (toV name d) ∧ Touch B w.heap.size w w' := by
  obtain ⟨a, cap, rfl⟩ := h.form
  go_enter Tryz.func45, Tryz.ntmps45
  go_wp2_with fail
  refine (sortS_any B w.heap.size n _ d _ (h.mono (by (repeat (first | with_reducible exact Below.refl _ _ | with_reducible exact hbw | (with_reducible refine Below.setCell ?_ ?_ _; rotate_left; · first | exact Nat.le_refl _ | omega | (simp; done) | (simp; omega)) | (with_reducible refine Below.alloc ?_ ?_ _; rotate_left; · first | exact Nat.le_refl _ | omega | (simp; done) | (simp; omega)) | with_reducible refine below_drewN ?_ _ | with_reducible refine Below.drew ?_)))) hd hn).mono ?_
  rintro e w1 ⟨rfl, ⟨d1, p1, s1, ho⟩, ht⟩
  have hz : w.heap.size + 2 ≤ w1.heap.size := by have := ht.size; simp at this; omega
  have y0 : w1.cell? ⟨w.heap.size + 1, 0, none⟩ = some (.string name) := touch_cell ht (by simp <;> omega) (Or.inr (by simp)) (by first | (simp [go_sem]; done) | (simp [go_sem]; rfl))
  have y1 : w1.cell? ⟨w.heap.size + 1, 1, none⟩ = some (.slice a n cap) := touch_cell ht (by simp <;> omega) (Or.inr (by simp)) (by first | (simp [go_sem]; done) | (simp [go_sem]; rfl))
  have r0 : w1.cell? ⟨w.heap.size, 0, none⟩ = some (.string .empty) := touch_cell ht (by simp <;> omega) (Or.inr (by simp)) (by first | (simp [go_sem]; done) | (simp [go_sem]; rfl))
  have r1 : w1.cell? ⟨w.heap.size, 1, none⟩ = some (.slice none 0 0) := touch_cell ht (by simp <;> omega) (Or.inr (by simp)) (by first | (simp [go_sem]; done) | (simp [go_sem]; rfl))
  have f0 : w1.frozen? ⟨w.heap.size, 0, none⟩ = false := touch_frozen ht (by simp <;> omega) (Or.inr (by simp)) (by first | (simp [go_sem]; done) | (simp [go_sem]; rfl))
  have f1 : w1.frozen? ⟨w.heap.size, 1, none⟩ = false := touch_frozen ht (by simp <;> omega) (Or.inr (by simp)) (by first | (simp [go_sem]; done) | (simp [go_sem]; rfl))
  have hl1 : d1.length = n := by rw [p1.length_eq]; exact hd
  have hto : Tun w1 (.agg #[.string name, .slice a n cap]) (.slice a n cap) ⟨name, d1⟩ := ⟨rfl, by have h3 := ho.1; rw [← hl1] at h3 ⊢; exact Tons.of_owns h3⟩
  have htc : Touch B w.heap.size w w1 := by
    refine Touch.trans ?_ ht
    (repeat (first | with_reducible exact Touch.refl _ _ _ | with_reducible exact htc | (with_reducible refine Touch.setCell ?_ ?_ _; rotate_left; · (simp only; omega)) | (with_reducible refine Touch.setNew ?_ ?_ _; rotate_left; · (first | (simp only; omega) | (simp; done) | (simp; omega))) | with_reducible refine Touch.alloc ?_ _ | with_reducible refine Touch.drewN ?_ _ | with_reducible refine Touch.drew ?_))
  have HO := Lib.hid ho; have HTo := Lib.hid hto; have P1 := Lib.hid p1; have S1 := Lib.hid s1; have HL := Lib.hid hl1
  clear ho hto p1 s1 ht hl1 hd
  go_wp2_with fail
  refine (implValidTun_any _ _ ⟨name, d1⟩ _ HTo.out hs).mono ?_
  rintro e w2 ⟨rfl, hb⟩
  have y0 := cellB hb y0
  have y1 := cellB hb y1
  have r0 := cellB hb r0
  have r1 := cellB hb r1
  have f0 := frozenL hb (by simp; omega) f0
  have f1 := frozenL hb (by simp; omega) f1
  have hz0 : w.heap.size + 2 ≤ w2.heap.size := by have := hb.size; omega
  have htc : Touch B w.heap.size w w2 := Touch.step htc hb (by omega)
  have HO2 := Lib.hid (HO.out.mono hb)
  clear HO hz
  have hz1 : w.heap.size < w2.heap.size := by omega
  have hz2 : w.heap.size + 1 < w2.heap.size := by omega
  by_cases hv : validTunB ⟨name, d1⟩ = true
  · obtain ⟨e1, e2⟩ := to_yes P1.out S1.out hv
    have E1 := Lib.hid e1; have E2 := Lib.hid e2
    rw [hv]
    have HL' := Lib.hid (show n = d1.length from HL.out.symm)
    clear e1 e2 hv
    go_wp2
    refine bodyPost_ret (v := .tuple #[.agg #[.string name, .slice a n cap], .int .i64 0]) (by simp [results, Tryz.results45, go_sem, hz0, hz1, hz2, r0, r1]) rfl ⟨_, by rw [E2.out], ?_, ?_⟩
    · rw [E1.out]
      refine ⟨_, rfl, ?_⟩
      have h3 := HO2.out
      rw [HL'.out] at h3 ⊢
      refine (h3.touch (B' := w.heap.size) (E' := w.heap.size + 1) ?_ (Or.inl (Nat.le_refl _))).wide (Nat.le_refl _) (by simp; omega)
      have htc := Touch.refl w.heap.size (w.heap.size + 1) w2
      (repeat (first | with_reducible exact Touch.refl _ _ _ | with_reducible exact htc | (with_reducible refine Touch.setCell ?_ ?_ _; rotate_left; · (simp only; omega)) | (with_reducible refine Touch.setNew ?_ ?_ _; rotate_left; · (first | (simp only; omega) | (simp; done) | (simp; omega))) | with_reducible refine Touch.alloc ?_ _ | with_reducible refine Touch.drewN ?_ _ | with_reducible refine Touch.drew ?_))
    · (repeat (first | with_reducible exact Touch.refl _ _ _ | with_reducible exact htc | (with_reducible refine Touch.setCell ?_ ?_ _; rotate_left; · (simp only; omega)) | (with_reducible refine Touch.setNew ?_ ?_ _; rotate_left; · (first | (simp only; omega) | (simp; done) | (simp; omega))) | with_reducible refine Touch.alloc ?_ _ | with_reducible refine Touch.drewN ?_ _ | with_reducible refine Touch.drew ?_))
  · have hv' : validTunB ⟨name, d1⟩ = false := by simpa using hv
    obtain ⟨e1, e2⟩ := to_no P1.out S1.out hv'
    have E1 := Lib.hid e1; have E2 := Lib.hid e2
    rw [hv']
    clear e1 e2 hv hv'
    go_wp2
    refine bodyPost_ret (v := .tuple #[.agg #[.string ⟨#[]⟩, .slice none 0 0], .int .i64 6]) (by simp [results, Tryz.results45, go_sem, hz0, hz1, hz2, r0, r1]) rfl ⟨_, by rw [E2.out], by rw [E1.out]; exact ownT_zero _ _ _, ?_⟩
    (repeat (first | with_reducible exact Touch.refl _ _ _ | with_reducible exact htc | (with_reducible refine Touch.setCell ?_ ?_ _; rotate_left; · (simp only; omega)) | (with_reducible refine Touch.setNew ?_ ?_ _; rotate_left; · (first | (simp only; omega) | (simp; done) | (simp; omega))) | with_reducible refine Touch.alloc ?_ _ | with_reducible refine Touch.drewN ?_ _ | with_reducible refine Touch.drew ?_))

end Go.Proofs.YtgdfecnpkjnhnaaGreatDoor
/- Contract of mapped, for a function value that captures one or two variables. -/
set_option linter.unusedSimpArgs false
set_option linter.unnecessarySimpa false
set_option linter.unusedVariables false
set_option maxRecDepth 100000
namespace Go.Proofs.YtgdfecnpkjnhnaaGreatDoor
open Go.RowKit

theorem map_snoc (xs : List Ton) (F : Ton → Ton) (k : Nat) (hk : k < xs.length) : ((xs.map F).take (k + 1)).flatMap Ton.cells = ((xs.map F).take k).flatMap Ton.cells ++ [.int .i64 (F xs[k]).note, .int .i64 (F xs[k]).start, .int .i64 (F xs[k]).len] := by
  rw [← List.map_take, ← List.map_take, List.take_succ_eq_append_getElem hk, List.map_append, List.flatMap_append]; rfl

theorem enters_68 (args : Array Value) (w : World) : Sem.run Tryz.prog (callFunc 23 args) w = .ok (.enter 23 args) w := by
  first | rfl | (simp [callFunc, go_sem]; done) | (go_simp; done)
set_option maxHeartbeats 1000000 in
theorem mapped1_any (N : Nat) (p : Value) (F : Ton → Ton) (v lv : Value) (x : TunD) (w : World) (h : Tun w v lv x) (hs : x.name.size ≤ maxLen) (hl : x.tones.length ≤ 1000000)
    (hN : ∀ args w, Sem.run Tryz.prog (callFunc N args) w = .ok (.enter N args) w)
    (hF : ∀ k (hk : k < x.tones.length) (w1 : World), Below w.heap.size w w1 → Calls Tryz.prog N #[.agg #[.int .i64 x.tones[k].note, .int .i64 x.tones[k].start, .int .i64 x.tones[k].len], p] w1 fun e w2 => e = .returned (.agg #[.int .i64 (F x.tones[k]).note, .int .i64 (F x.tones[k]).start, .int .i64 (F x.tones[k]).len]) ∧ Below w1.heap.size w1 w2) :
    Calls Tryz.prog 22 #[v, .func (.func N) #[] #[p]] w fun e w' => ∃ v', e = .returned (.tuple #[v', .int .i64 (toC x.name (x.tones.map F))]) ∧ OwnTun w.heap.size w'.heap.size w' v' (toV x.name (x.tones.map F)) ∧ Below w.heap.size w w' := by
  obtain ⟨rfl, hlv⟩ := h
  obtain ⟨a, ca, rfl, hca, hcm, _⟩ := id hlv
  have HF := Lib.hid hF; clear hF
  go_enter Tryz.func22, Tryz.ntmps22
  go_wp2_with fail
  go_loopw [12, 6] (fun i tv wr => ∃ (k : Nat) (a' : Option Addr) (cap' : Nat), k ≤ x.tones.length ∧ i = .int .i64 (k : Int) ∧ tv = .slice a' k cap' ∧ wr.ownsRow (w.heap.size + 2) 50 3 (.slice a' k cap') k (((x.tones.map F).take k).flatMap Ton.cells) ∧ Below w.heap.size w wr ∧ w.heap.size + 2 ≤ wr.heap.size ∧ wr.cell? ⟨w.heap.size, 0, none⟩ = some (.string x.name) ∧ wr.cell? ⟨w.heap.size + 1, 0, none⟩ = some (.string ⟨#[]⟩) ∧ wr.cell? ⟨w.heap.size + 1, 1, none⟩ = some (.slice none 0 0) ∧ wr.frozen? ⟨w.heap.size + 1, 0, none⟩ = false ∧ wr.frozen? ⟨w.heap.size + 1, 1, none⟩ = false) (fun i tv _ => x.tones.length - (intOf i).toNat)
  case atStart => exact ⟨0, none, 0, Nat.zero_le _, by go_num, rfl, by simpa using owns_nil _ _ _ _, by (repeat (first | with_reducible exact Below.refl _ _ | with_reducible exact hbw | (with_reducible refine Below.setCell ?_ ?_ _; rotate_left; · first | exact Nat.le_refl _ | omega | (simp; done) | (simp; omega)) | (with_reducible refine Below.alloc ?_ ?_ _; rotate_left; · first | exact Nat.le_refl _ | omega | (simp; done) | (simp; omega)) | with_reducible refine below_drewN ?_ _ | with_reducible refine Below.drew ?_)), by simp, by simp [go_sem], by simp [go_sem], by simp [go_sem], by simp [go_sem], by simp [go_sem]⟩
  case round =>
    obtain ⟨k, a', cap', hk, rfl, rfl, ho, hb, hz, y0, r0, r1, f0, f1⟩ := hrel
    have HO := Lib.hid ho; clear ho
    by_cases hlt : k < x.tones.length
    · obtain ⟨b1, o1, rfl, hB1, c0, c1, c2⟩ := (hlv.mono hb).at hlt
      have l1 : b1 < wr.heap.size + 1 := by omega
      go_wp2_with fail
      refine (HF.out k hlt _ ?_).mono ?_
      · have hbw := hb
        (repeat (first | with_reducible exact Below.refl _ _ | with_reducible exact hbw | (with_reducible refine Below.setCell ?_ ?_ _; rotate_left; · first | exact Nat.le_refl _ | omega | (simp; done) | (simp; omega)) | (with_reducible refine Below.alloc ?_ ?_ _; rotate_left; · first | exact Nat.le_refl _ | omega | (simp; done) | (simp; omega)) | with_reducible refine below_drewN ?_ _ | with_reducible refine Below.drew ?_))
      rintro e w1 ⟨rfl, hb1⟩
      have hb2 : Below wr.heap.size wr w1 := Below.trans (by (repeat (first | with_reducible exact Below.refl _ _ | with_reducible exact hbw | (with_reducible refine Below.setCell ?_ ?_ _; rotate_left; · first | exact Nat.le_refl _ | omega | (simp; done) | (simp; omega)) | (with_reducible refine Below.alloc ?_ ?_ _; rotate_left; · first | exact Nat.le_refl _ | omega | (simp; done) | (simp; omega)) | with_reducible refine below_drewN ?_ _ | with_reducible refine Below.drew ?_))) (hb1.mono (by simp <;> omega))
      have hz1 : wr.heap.size + 1 ≤ w1.heap.size := by have := hb1.size; simp at this; omega
      have i0 : w1.cell? ⟨wr.heap.size, 0, none⟩ = some (.int .i64 x.tones[k].note) := cellB hb1 (by simp [go_sem])
      have y0 := cellB hb2 y0
      have r0 := cellB hb2 r0
      have r1 := cellB hb2 r1
      have f0 := frozenL hb2 (by simp; omega) f0
      have f1 := frozenL hb2 (by simp; omega) f1
      have hoX := owns_mono HO.out hb2
      have hbX := hb.trans (hb2.mono hb.size)
      have HBX := Lib.hid hbX
      clear hb1 hb2 hbX
      go_wp2_with (at_builtin; refine append_one_at rfl _ _ 24 rfl (w.heap.size + 2) 50 _ 3 24 Tryz.underlying24 info_Tone rfl (by decide) _ k _ rfl hoX [.int .i64 (F x.tones[k]).note, .int .i64 (F x.tones[k]).start, .int .i64 (F x.tones[k]).len] rfl (by intro u hu; simp at hu; rcases hu with rfl | rfl | rfl <;> rfl) w1.heap.size (by simp) rfl (by omega) (by decide) (by omega) ?_)
      intro a5 cap5 w5 ho5 hg5 hb5 hat5
      have hz5 := hb5.size
      have y0 := cellL hb5 (by simp) y0
      have r0 := cellL hb5 (by simp) r0
      have r1 := cellL hb5 (by simp) r1
      have f0 := frozenL hb5 (by simp) f0
      have f1 := frozenL hb5 (by simp) f1
      have HB5 := Lib.hid (HBX.out.trans (hb5.mono (by omega)))
      have HO5 := Lib.hid ho5
      clear hb5 ho5 hg5 hat5
      go_wp2
      go_roundw
      case rel => exact ⟨k + 1, a5, cap5, by omega, by go_num, rfl, by rw [map_snoc _ F k hlt]; exact HO5.out, HB5.out, by omega, y0, r0, r1, f0, f1⟩
      case measure => simp [intOf] <;> omega
    · obtain rfl : k = x.tones.length := by omega
      have e0 : (x.tones.map F).take x.tones.length = x.tones.map F := List.take_of_length_le (by simp)
      have ho := HO.out
      rw [e0] at ho
      have HO2 := Lib.hid ho; clear ho e0
      go_wp2_with fail
      refine (tuneOf_any (w.heap.size + 2) x.tones.length x.name _ (x.tones.map F) _ (OwnRow.mk' HO2.out) (by simp) hl hs hz).mono ?_
      rintro e w1 ⟨v1, rfl, ho1, ht⟩
      obtain ⟨c1, cap1, rfl⟩ := ho1.form
      have hz1 := ht.size
      have r0 := cellT ht r0 (Or.inl (by simp))
      have r1 := cellT ht r1 (Or.inl (by simp))
      have f0 := touch_frozen ht (by simp; omega) (Or.inl (by simp)) f0
      have f1 := touch_frozen ht (by simp; omega) (Or.inl (by simp)) f1
      have hb1 : Below w.heap.size w w1 := ht.below (b := w.heap.size) hb (by omega) hb.size
      have HO1 := Lib.hid ho1
      have hz3 : w.heap.size + 1 < w1.heap.size := by omega
      clear ho1 ht hb
      go_wp2
      refine bodyPost_ret (v := .tuple #[.agg #[.string (toV x.name (x.tones.map F)).name, .slice c1 (toV x.name (x.tones.map F)).tones.length cap1], .int .i64 (toC x.name (x.tones.map F))]) (by simp [results, Tryz.results22, go_sem, hz3, r0, r1]) rfl ⟨_, rfl, ?_, ?_⟩
      · refine (HO1.out.touch (B' := w.heap.size + 1) (E' := w.heap.size + 2) ?_ (Or.inr (Nat.le_refl _))).wide (by omega) (by simp)
        have htc := Touch.refl (w.heap.size + 1) (w.heap.size + 2) w1
        (repeat (first | with_reducible exact Touch.refl _ _ _ | with_reducible exact htc | (with_reducible refine Touch.setCell ?_ ?_ _; rotate_left; · (simp only; omega)) | (with_reducible refine Touch.setNew ?_ ?_ _; rotate_left; · (first | (simp only; omega) | (simp; done) | (simp; omega))) | with_reducible refine Touch.alloc ?_ _ | with_reducible refine Touch.drewN ?_ _ | with_reducible refine Touch.drew ?_))
      · have hbw := hb1
        (repeat (first | with_reducible exact Below.refl _ _ | with_reducible exact hbw | (with_reducible refine Below.setCell ?_ ?_ _; rotate_left; · first | exact Nat.le_refl _ | omega | (simp; done) | (simp; omega)) | (with_reducible refine Below.alloc ?_ ?_ _; rotate_left; · first | exact Nat.le_refl _ | omega | (simp; done) | (simp; omega)) | with_reducible refine below_drewN ?_ _ | with_reducible refine Below.drew ?_))

end Go.Proofs.YtgdfecnpkjnhnaaGreatDoor
/- Contract of impl.TransposeTune. -/
set_option linter.unusedSimpArgs false
set_option linter.unnecessarySimpa false
set_option linter.unusedVariables false
set_option maxRecDepth 100000
namespace Go.Proofs.YtgdfecnpkjnhnaaGreatDoor
open Go.RowKit

def trF (by_ : Int) (x : Ton) : Ton := ⟨x.note + by_, x.start, x.len⟩

set_option maxHeartbeats 400000 in
theorem trans1_any (x : Ton) (c : Nat) (by_ : Int) (w : World) (hc : w.cell? ⟨c, 0, none⟩ = some (.int .i64 by_)) (h1 : -1000000 ≤ x.note + by_) (h2 : x.note + by_ ≤ 1000000) :
    Calls Tryz.prog 23 #[.agg #[.int .i64 x.note, .int .i64 x.start, .int .i64 x.len], .pointer (some ⟨c, 0, none⟩)] w fun e w' => e = .returned (.agg #[.int .i64 (trF by_ x).note, .int .i64 (trF by_ x).start, .int .i64 (trF by_ x).len]) ∧ Below w.heap.size w w' := by
  have hlt := World.block_lt_of_cell? w _ hc
  simp only at hlt
  have l1 : c < w.heap.size + 1 := by omega
  have l2 : c < w.heap.size + 1 + 1 := by omega
  go_enter Tryz.func23, Tryz.ntmps23
  go_wp2
  refine bodyPost_ret (v := .agg #[.int .i64 (x.note + by_), .int .i64 x.start, .int .i64 x.len]) (by simp [results, Tryz.results23, go_sem]) rfl ⟨rfl, ?_⟩
  (repeat (first | with_reducible exact Below.refl _ _ | with_reducible exact hbw | (with_reducible refine Below.setCell ?_ ?_ _; rotate_left; · first | exact Nat.le_refl _ | omega | (simp; done) | (simp; omega)) | (with_reducible refine Below.alloc ?_ ?_ _; rotate_left; · first | exact Nat.le_refl _ | omega | (simp; done) | (simp; omega)) | with_reducible refine below_drewN ?_ _ | with_reducible refine Below.drew ?_))

def trIn (b : Int) : Prop := -127 ≤ b ∧ b ≤ 127
instance (b : Int) : Decidable (trIn b) := by unfold trIn; infer_instance
noncomputable def trV (x : TunD) (b : Int) : TunD := if validTunB x = true then if trIn b then toV x.name (x.tones.map (trF b)) else ⟨.empty, []⟩ else ⟨.empty, []⟩
noncomputable def trC (x : TunD) (b : Int) : Int := if validTunB x = true then if trIn b then toC x.name (x.tones.map (trF b)) else 2 else 1
theorem tr_yes {x : TunD} {b : Int} (h : validTunB x = true) (g : trIn b) : trV x b = toV x.name (x.tones.map (trF b)) ∧ trC x b = toC x.name (x.tones.map (trF b)) := by unfold trV trC; rw [if_pos h, if_pos h, if_pos g, if_pos g]; exact ⟨rfl, rfl⟩
theorem tr_rng {x : TunD} {b : Int} (h : validTunB x = true) (g : ¬ trIn b) : trV x b = ⟨.empty, []⟩ ∧ trC x b = 2 := by unfold trV trC; rw [if_pos h, if_pos h, if_neg g, if_neg g]; exact ⟨rfl, rfl⟩
theorem tr_inv {x : TunD} {b : Int} (h : ¬ validTunB x = true) : trV x b = ⟨.empty, []⟩ ∧ trC x b = 1 := by unfold trV trC; rw [if_neg h, if_neg h]; exact ⟨rfl, rfl⟩
set_option maxHeartbeats 1000000 in
theorem implTransposeTune_any (v : Value) (x : TunD) (b : Int) (w : World) (h : RdTun w v x) (ok : x.ok) (hs : x.tones.length ≤ 1048576) (_ : I64 b) :
    Calls Tryz.prog 7 #[v, .int .i64 b] w fun e w' => ∃ v', e = .returned (.tuple #[v', .int .i64 (trC x b)]) ∧ OwnTun w.heap.size w'.heap.size w' v' (trV x b) ∧ Below w.heap.size w w' := by
  obtain ⟨lv, rfl, hlv⟩ := h
  obtain ⟨a, ca, rfl, hca, hcm, _⟩ := id hlv
  have hn := ok.1
  by_cases g : validTunB x = true
  · by_cases g2 : trIn b
    · obtain ⟨e1, e2⟩ := tr_yes g g2
      have E1 := Lib.hid e1; have E2 := Lib.hid e2; have G := Lib.hid g; have G2 := Lib.hid g2; clear e1 e2 g g2
      go_enter Tryz.func7, Tryz.ntmps7
      go_wp2_with fail
      refine (implValidTun_any _ (.slice a x.tones.length ca) x _ ⟨rfl, hlv.mono (by (repeat (first | with_reducible exact Below.refl _ _ | with_reducible exact hbw | (with_reducible refine Below.setCell ?_ ?_ _; rotate_left; · first | exact Nat.le_refl _ | omega | (simp; done) | (simp; omega)) | (with_reducible refine Below.alloc ?_ ?_ _; rotate_left; · first | exact Nat.le_refl _ | omega | (simp; done) | (simp; omega)) | with_reducible refine below_drewN ?_ _ | with_reducible refine Below.drew ?_)))⟩ hn).mono ?_
      rintro e w1 ⟨rfl, hb⟩
      have HB := Lib.hid (show Below w.heap.size w w1 from Below.trans (by (repeat (first | with_reducible exact Below.refl _ _ | with_reducible exact hbw | (with_reducible refine Below.setCell ?_ ?_ _; rotate_left; · first | exact Nat.le_refl _ | omega | (simp; done) | (simp; omega)) | (with_reducible refine Below.alloc ?_ ?_ _; rotate_left; · first | exact Nat.le_refl _ | omega | (simp; done) | (simp; omega)) | with_reducible refine below_drewN ?_ _ | with_reducible refine Below.drew ?_))) (hb.mono (by simp <;> omega)))
      have hz : w.heap.size + 3 ≤ w1.heap.size := by have := hb.size; simp at this; omega
      have z0 : w1.cell? ⟨w.heap.size, 0, none⟩ = some (.string x.name) := cellB hb (by simp [go_sem])
      have z1 : w1.cell? ⟨w.heap.size, 1, none⟩ = some (.slice a x.tones.length ca) := cellB hb (by simp [go_sem])
      have z2 : w1.cell? ⟨w.heap.size + 1, 0, none⟩ = some (.int .i64 b) := cellB hb (by simp [go_sem])
      have r0 : w1.cell? ⟨w.heap.size + 2, 0, none⟩ = some (.string ⟨#[]⟩) := cellB hb (by simp [go_sem])
      have r1 : w1.cell? ⟨w.heap.size + 2, 1, none⟩ = some (.slice none 0 0) := cellB hb (by simp [go_sem])
      have f0 : w1.frozen? ⟨w.heap.size + 2, 0, none⟩ = false := frozenL hb (by simp) (by simp [go_sem])
      have f1 : w1.frozen? ⟨w.heap.size + 2, 1, none⟩ = false := frozenL hb (by simp) (by simp [go_sem])
      have hz0 : w.heap.size < w1.heap.size := by omega
      have hz1 : w.heap.size + 1 < w1.heap.size := by omega
      have hz2 : w.heap.size + 2 < w1.heap.size := by omega
      clear hb
      rw [G.out]
      go_wp2_with fail
      refine (within_any true _ _ _ _ (yesB G2.out)).mono ?_
      rintro e w2 ⟨rfl, rfl⟩
      go_wp2_with fail
      have hTo : Tun w2 (.agg #[.string x.name, .slice a x.tones.length ca]) (.slice a x.tones.length ca) x := ⟨rfl, hlv.mono HB.out⟩
      refine (mapped1_any 23 (.pointer (some ⟨w.heap.size + 1, 0, none⟩)) (trF b) _ _ x _ hTo hn (Nat.le_trans (tun_len G.out) (by decide)) enters_68 (fun k hk w3 hb3 => trans1_any x.tones[k] _ b w3 (cellB hb3 z2) (by have := tun_tone G.out hk; have h1 := this.note; have h2 := G2.out; unfold noteOk at h1; unfold trIn at h2; omega) (by have := tun_tone G.out hk; have h1 := this.note; have h2 := G2.out; unfold noteOk at h1; unfold trIn at h2; omega))).mono ?_
      rintro e w3 ⟨v3, rfl, ho3, hb3⟩
      obtain ⟨c1, cap1, rfl⟩ := ho3.form
      have hz5 := hb3.size
      have r0 := cellB hb3 r0
      have r1 := cellB hb3 r1
      have f0 := frozenL hb3 (by simp; omega) f0
      have f1 := frozenL hb3 (by simp; omega) f1
      have hz4 : w.heap.size + 2 < w3.heap.size := by omega
      have HB3 := Lib.hid (HB.out.trans (hb3.mono (by omega)))
      have HO3 := Lib.hid ho3
      clear hb3 ho3 z0 z1 z2
      go_wp2
      refine bodyPost_ret (v := .tuple #[.agg #[.string (toV x.name (x.tones.map (trF b))).name, .slice c1 (toV x.name (x.tones.map (trF b))).tones.length cap1], .int .i64 (toC x.name (x.tones.map (trF b)))]) (by simp [results, Tryz.results7, go_sem, hz4, r0, r1]) rfl ⟨_, by rw [E2.out], ?_, ?_⟩
      · rw [E1.out]
        refine (HO3.out.touch (B' := w.heap.size + 2) (E' := w.heap.size + 3) ?_ (Or.inr hz)).wide (by omega) (by simp)
        have htc := Touch.refl (w.heap.size + 2) (w.heap.size + 3) w3
        (repeat (first | with_reducible exact Touch.refl _ _ _ | with_reducible exact htc | (with_reducible refine Touch.setCell ?_ ?_ _; rotate_left; · (simp only; omega)) | (with_reducible refine Touch.setNew ?_ ?_ _; rotate_left; · (first | (simp only; omega) | (simp; done) | (simp; omega))) | with_reducible refine Touch.alloc ?_ _ | with_reducible refine Touch.drewN ?_ _ | with_reducible refine Touch.drew ?_))
      · have hbw := HB3.out
        (repeat (first | with_reducible exact Below.refl _ _ | with_reducible exact hbw | (with_reducible refine Below.setCell ?_ ?_ _; rotate_left; · first | exact Nat.le_refl _ | omega | (simp; done) | (simp; omega)) | (with_reducible refine Below.alloc ?_ ?_ _; rotate_left; · first | exact Nat.le_refl _ | omega | (simp; done) | (simp; omega)) | with_reducible refine below_drewN ?_ _ | with_reducible refine Below.drew ?_))
    · obtain ⟨e1, e2⟩ := tr_rng g g2
      have E1 := Lib.hid e1; have E2 := Lib.hid e2; have G := Lib.hid g; have G2 := Lib.hid g2; clear e1 e2 g g2
      go_enter Tryz.func7, Tryz.ntmps7
      go_wp2_with fail
      refine (implValidTun_any _ (.slice a x.tones.length ca) x _ ⟨rfl, hlv.mono (by (repeat (first | with_reducible exact Below.refl _ _ | with_reducible exact hbw | (with_reducible refine Below.setCell ?_ ?_ _; rotate_left; · first | exact Nat.le_refl _ | omega | (simp; done) | (simp; omega)) | (with_reducible refine Below.alloc ?_ ?_ _; rotate_left; · first | exact Nat.le_refl _ | omega | (simp; done) | (simp; omega)) | with_reducible refine below_drewN ?_ _ | with_reducible refine Below.drew ?_)))⟩ hn).mono ?_
      rintro e w1 ⟨rfl, hb⟩
      have HB := Lib.hid (show Below w.heap.size w w1 from Below.trans (by (repeat (first | with_reducible exact Below.refl _ _ | with_reducible exact hbw | (with_reducible refine Below.setCell ?_ ?_ _; rotate_left; · first | exact Nat.le_refl _ | omega | (simp; done) | (simp; omega)) | (with_reducible refine Below.alloc ?_ ?_ _; rotate_left; · first | exact Nat.le_refl _ | omega | (simp; done) | (simp; omega)) | with_reducible refine below_drewN ?_ _ | with_reducible refine Below.drew ?_))) (hb.mono (by simp <;> omega)))
      have hz : w.heap.size + 3 ≤ w1.heap.size := by have := hb.size; simp at this; omega
      have z0 : w1.cell? ⟨w.heap.size, 0, none⟩ = some (.string x.name) := cellB hb (by simp [go_sem])
      have z1 : w1.cell? ⟨w.heap.size, 1, none⟩ = some (.slice a x.tones.length ca) := cellB hb (by simp [go_sem])
      have z2 : w1.cell? ⟨w.heap.size + 1, 0, none⟩ = some (.int .i64 b) := cellB hb (by simp [go_sem])
      have r0 : w1.cell? ⟨w.heap.size + 2, 0, none⟩ = some (.string ⟨#[]⟩) := cellB hb (by simp [go_sem])
      have r1 : w1.cell? ⟨w.heap.size + 2, 1, none⟩ = some (.slice none 0 0) := cellB hb (by simp [go_sem])
      have f0 : w1.frozen? ⟨w.heap.size + 2, 0, none⟩ = false := frozenL hb (by simp) (by simp [go_sem])
      have f1 : w1.frozen? ⟨w.heap.size + 2, 1, none⟩ = false := frozenL hb (by simp) (by simp [go_sem])
      have hz0 : w.heap.size < w1.heap.size := by omega
      have hz1 : w.heap.size + 1 < w1.heap.size := by omega
      have hz2 : w.heap.size + 2 < w1.heap.size := by omega
      clear hb
      rw [G.out]
      go_wp2_with fail
      refine (within_any false _ _ _ _ (noB G2.out)).mono ?_
      rintro e w2 ⟨rfl, rfl⟩
      go_wp2
      refine bodyPost_ret (v := .tuple #[.agg #[.string ⟨#[]⟩, .slice none 0 0], .int .i64 2]) (by simp [results, Tryz.results7, go_sem, hz2, r0, r1]) rfl ⟨_, by rw [E2.out], by rw [E1.out]; exact ownT_zero _ _ _, ?_⟩
      have hbw := HB.out
      (repeat (first | with_reducible exact Below.refl _ _ | with_reducible exact hbw | (with_reducible refine Below.setCell ?_ ?_ _; rotate_left; · first | exact Nat.le_refl _ | omega | (simp; done) | (simp; omega)) | (with_reducible refine Below.alloc ?_ ?_ _; rotate_left; · first | exact Nat.le_refl _ | omega | (simp; done) | (simp; omega)) | with_reducible refine below_drewN ?_ _ | with_reducible refine Below.drew ?_))
  · obtain ⟨e1, e2⟩ := tr_inv (b := b) g
    have E1 := Lib.hid e1; have E2 := Lib.hid e2; have G := Lib.hid (show validTunB x = false by simpa using g); clear e1 e2 g
    go_enter Tryz.func7, Tryz.ntmps7
    go_wp2_with fail
    refine (implValidTun_any _ (.slice a x.tones.length ca) x _ ⟨rfl, hlv.mono (by (repeat (first | with_reducible exact Below.refl _ _ | with_reducible exact hbw | (with_reducible refine Below.setCell ?_ ?_ _; rotate_left; · first | exact Nat.le_refl _ | omega | (simp; done) | (simp; omega)) | (with_reducible refine Below.alloc ?_ ?_ _; rotate_left; · first | exact Nat.le_refl _ | omega | (simp; done) | (simp; omega)) | with_reducible refine below_drewN ?_ _ | with_reducible refine Below.drew ?_)))⟩ hn).mono ?_
    rintro e w1 ⟨rfl, hb⟩
    have HB := Lib.hid (show Below w.heap.size w w1 from Below.trans (by (repeat (first | with_reducible exact Below.refl _ _ | with_reducible exact hbw | (with_reducible refine Below.setCell ?_ ?_ _; rotate_left; · first | exact Nat.le_refl _ | omega | (simp; done) | (simp; omega)) | (with_reducible refine Below.alloc ?_ ?_ _; rotate_left; · first | exact Nat.le_refl _ | omega | (simp; done) | (simp; omega)) | with_reducible refine below_drewN ?_ _ | with_reducible refine Below.drew ?_))) (hb.mono (by simp <;> omega)))
    have hz : w.heap.size + 3 ≤ w1.heap.size := by have := hb.size; simp at this; omega
    have z0 : w1.cell? ⟨w.heap.size, 0, none⟩ = some (.string x.name) := cellB hb (by simp [go_sem])
    have z1 : w1.cell? ⟨w.heap.size, 1, none⟩ = some (.slice a x.tones.length ca) := cellB hb (by simp [go_sem])
    have z2 : w1.cell? ⟨w.heap.size + 1, 0, none⟩ = some (.int .i64 b) := cellB hb (by simp [go_sem])
    have r0 : w1.cell? ⟨w.heap.size + 2, 0, none⟩ = some (.string ⟨#[]⟩) := cellB hb (by simp [go_sem])
    have r1 : w1.cell? ⟨w.heap.size + 2, 1, none⟩ = some (.slice none 0 0) := cellB hb (by simp [go_sem])
    have f0 : w1.frozen? ⟨w.heap.size + 2, 0, none⟩ = false := frozenL hb (by simp) (by simp [go_sem])
    have f1 : w1.frozen? ⟨w.heap.size + 2, 1, none⟩ = false := frozenL hb (by simp) (by simp [go_sem])
    have hz0 : w.heap.size < w1.heap.size := by omega
    have hz1 : w.heap.size + 1 < w1.heap.size := by omega
    have hz2 : w.heap.size + 2 < w1.heap.size := by omega
    clear hb
    rw [G.out]
    go_wp2
    refine bodyPost_ret (v := .tuple #[.agg #[.string ⟨#[]⟩, .slice none 0 0], .int .i64 1]) (by simp [results, Tryz.results7, go_sem, hz2, r0, r1]) rfl ⟨_, by rw [E2.out], by rw [E1.out]; exact ownT_zero _ _ _, ?_⟩
    have hbw := HB.out
    (repeat (first | with_reducible exact Below.refl _ _ | with_reducible exact hbw | (with_reducible refine Below.setCell ?_ ?_ _; rotate_left; · first | exact Nat.le_refl _ | omega | (simp; done) | (simp; omega)) | (with_reducible refine Below.alloc ?_ ?_ _; rotate_left; · first | exact Nat.le_refl _ | omega | (simp; done) | (simp; omega)) | with_reducible refine below_drewN ?_ _ | with_reducible refine Below.drew ?_))

end Go.Proofs.YtgdfecnpkjnhnaaGreatDoor
/- Contracts of the tune's end of both packages. -/
set_option linter.unusedSimpArgs false
set_option linter.unnecessarySimpa false
set_option linter.unusedVariables false
namespace Go.Proofs.YtgdfecnpkjnhnaaGreatDoor
open Go.RowKit

def endOf (xs : List Ton) : Int := xs.foldl (fun e x => max e (x.start + x.len)) 0
theorem endOf_zero (xs : List Ton) : endOf (xs.take 0) = 0 := rfl
theorem endOf_step (xs : List Ton) {k : Nat} (h : k < xs.length) : endOf (xs.take (k + 1)) = max (endOf (xs.take k)) (xs[k].start + xs[k].len) := by
  unfold endOf
  rw [List.take_succ_eq_append_getElem h, List.foldl_append]
  rfl
theorem endOf_all (xs : List Ton) {k : Nat} (h : xs.length ≤ k) : endOf (xs.take k) = endOf xs := by rw [List.take_of_length_le h]

set_option maxHeartbeats 1000000 in
theorem tuneEnd_any (v lv : Value) (x : TunD) (w : World) (h : Tun w v lv x) (ok : TonesOk x.tones) :
    Calls Tryz.prog 33 #[v] w fun e w' => e = .returned (.int .i64 (endOf x.tones)) ∧ Below w.heap.size w w' := by
  obtain ⟨rfl, hlv⟩ := h
  obtain ⟨a, ca, rfl, hca, hcm, _⟩ := id hlv
  have hm : x.tones.length ≤ maxLen := by omega
  clear hca hcm
  unfold maxLen at hm
  have ok := Lib.hid ok
  go_enter Tryz.func33, Tryz.ntmps33
  go_wp2_with fail
  go_loopw [3, 9, 5] (fun v i _ wr => ∃ k : Nat, k ≤ x.tones.length ∧ i = .int .i64 k ∧ v = .int .i64 (endOf (x.tones.take k)) ∧ Below w.heap.size w wr) (fun _ i _ _ => x.tones.length - (intOf i).toNat)
  case atStart => exact ⟨0, Nat.zero_le _, rfl, rfl, by (repeat (first | with_reducible exact Below.refl _ _ | with_reducible exact hbw | (with_reducible refine Below.setCell ?_ ?_ _; rotate_left; · first | exact Nat.le_refl _ | omega | (simp; done) | (simp; omega)) | (with_reducible refine Below.alloc ?_ ?_ _; rotate_left; · first | exact Nat.le_refl _ | omega | (simp; done) | (simp; omega)) | with_reducible refine below_drewN ?_ _ | with_reducible refine Below.drew ?_))⟩
  case round =>
    obtain ⟨k, hk, rfl, rfl, hb⟩ := hrel
    by_cases hlt : k < x.tones.length
    · obtain ⟨b1, o1, rfl, hB1, c0, c1, c2⟩ := (hlv.mono hb).at hlt
      obtain ⟨f1, f2, f3, f4⟩ := (ok.out k hlt hlt).1.fits
      have w1' : IntKind.i64.wrap (x.tones[k].start + x.tones[k].len) = x.tones[k].start + x.tones[k].len := IntWalk.i64_in _ (by omega)
      clear f1 f2 f3 f4
      have l1 : b1 < wr.heap.size + 1 := by omega
      go_wp2
      clear w1'
      go_roundw
      case rel => exact ⟨k + 1, by omega, by go_num, by rw [endOf_step _ hlt]; congr 1; split <;> omega, hb.trans (Below.mono (B := wr.heap.size) (by (repeat (first | with_reducible exact Below.refl _ _ | with_reducible exact hbw | (with_reducible refine Below.setCell ?_ ?_ _; rotate_left; · first | exact Nat.le_refl _ | omega | (simp; done) | (simp; omega)) | (with_reducible refine Below.alloc ?_ ?_ _; rotate_left; · first | exact Nat.le_refl _ | omega | (simp; done) | (simp; omega)) | with_reducible refine below_drewN ?_ _ | with_reducible refine Below.drew ?_))) hb.size)⟩
      case measure => simp [intOf]; omega
    · rw [endOf_all _ (show x.tones.length ≤ k by omega)]
      go_wp2
      go_ret
      exact ⟨rfl, hb⟩

noncomputable def tuneEndV (x : TunD) : Int := if validTunB x then endOf x.tones else 0
noncomputable def tuneEndC (x : TunD) : Int := if validTunB x then 0 else 1
theorem implTuneEnd_any (v : Value) (x : TunD) (w : World) (h : RdTun w v x) (ok : x.ok) (_ : x.tones.length ≤ 1048576) :
    Calls Tryz.prog 12 #[v] w fun e w' => e = .returned (.tuple #[.int .i64 (tuneEndV x), .int .i64 (tuneEndC x)]) ∧ Below w.heap.size w w' := by
  obtain ⟨lv, rfl, hlv⟩ := h
  unfold tuneEndV tuneEndC
  by_cases g : TunOk x
  · have g' := validTunB_iff.2 g
    have T := Lib.hid g.tones
    clear g
    rw [g']
    go_enter Tryz.func12, Tryz.ntmps12
    go_wp2_with fail
    refine (implValidTun_any _ lv x _ ⟨rfl, hlv.mono (by (repeat (first | with_reducible exact Below.refl _ _ | with_reducible exact hbw | (with_reducible refine Below.setCell ?_ ?_ _; rotate_left; · first | exact Nat.le_refl _ | omega | (simp; done) | (simp; omega)) | (with_reducible refine Below.alloc ?_ ?_ _; rotate_left; · first | exact Nat.le_refl _ | omega | (simp; done) | (simp; omega)) | with_reducible refine below_drewN ?_ _ | with_reducible refine Below.drew ?_)))⟩ ok.1).mono ?_
    rw [g']
    rintro e w1 ⟨rfl, hb⟩
    have hbw : Below w.heap.size w w1 := Below.trans (by (repeat (first | with_reducible exact Below.refl _ _ | with_reducible exact hbw | (with_reducible refine Below.setCell ?_ ?_ _; rotate_left; · first | exact Nat.le_refl _ | omega | (simp; done) | (simp; omega)) | (with_reducible refine Below.alloc ?_ ?_ _; rotate_left; · first | exact Nat.le_refl _ | omega | (simp; done) | (simp; omega)) | with_reducible refine below_drewN ?_ _ | with_reducible refine Below.drew ?_))) (hb.mono (by simp <;> omega))
    have y0 : w1.cell? ⟨w.heap.size, 0, none⟩ = some (.string x.name) := cellB hb (by simp [go_sem])
    have y1 : w1.cell? ⟨w.heap.size, 1, none⟩ = some lv := cellB hb (by simp [go_sem])
    go_wp2_with fail
    refine (tuneEnd_any _ lv x _ ⟨rfl, hlv.mono hbw⟩ T.out).mono ?_
    rintro e w2 ⟨rfl, hb2⟩
    have hbw := hbw.trans (hb2.mono hbw.size)
    go_wp2
    go_ret2
    exact ⟨rfl, hbw⟩
  · have g' : validTunB x = false := by rw [← Bool.not_eq_true, validTunB_iff]; exact g
    rw [g']
    clear g
    go_enter Tryz.func12, Tryz.ntmps12
    go_wp2_with fail
    refine (implValidTun_any _ lv x _ ⟨rfl, hlv.mono (by (repeat (first | with_reducible exact Below.refl _ _ | with_reducible exact hbw | (with_reducible refine Below.setCell ?_ ?_ _; rotate_left; · first | exact Nat.le_refl _ | omega | (simp; done) | (simp; omega)) | (with_reducible refine Below.alloc ?_ ?_ _; rotate_left; · first | exact Nat.le_refl _ | omega | (simp; done) | (simp; omega)) | with_reducible refine below_drewN ?_ _ | with_reducible refine Below.drew ?_)))⟩ ok.1).mono ?_
    rw [g']
    rintro e w1 ⟨rfl, hb⟩
    have hbw : Below w.heap.size w w1 := Below.trans (by (repeat (first | with_reducible exact Below.refl _ _ | with_reducible exact hbw | (with_reducible refine Below.setCell ?_ ?_ _; rotate_left; · first | exact Nat.le_refl _ | omega | (simp; done) | (simp; omega)) | (with_reducible refine Below.alloc ?_ ?_ _; rotate_left; · first | exact Nat.le_refl _ | omega | (simp; done) | (simp; omega)) | with_reducible refine below_drewN ?_ _ | with_reducible refine Below.drew ?_))) (hb.mono (by simp <;> omega))
    go_wp2
    go_ret2
    exact ⟨rfl, hbw⟩

end Go.Proofs.YtgdfecnpkjnhnaaGreatDoor
/- Contract of impl.ReverseTune. -/
set_option linter.unusedSimpArgs false
set_option linter.unnecessarySimpa false
set_option linter.unusedVariables false
set_option maxRecDepth 100000
namespace Go.Proofs.YtgdfecnpkjnhnaaGreatDoor
open Go.RowKit

def revF (e : Int) (x : Ton) : Ton := ⟨x.note, e - x.start - x.len, x.len⟩

noncomputable def revV (x : TunD) : TunD := if validTunB x = true then toV x.name (x.tones.map (revF (endOf x.tones))) else ⟨.empty, []⟩
noncomputable def revC (x : TunD) : Int := if validTunB x = true then toC x.name (x.tones.map (revF (endOf x.tones))) else 1
theorem rev_yes {x : TunD} (h : validTunB x = true) : revV x = toV x.name (x.tones.map (revF (endOf x.tones))) ∧ revC x = toC x.name (x.tones.map (revF (endOf x.tones))) := by unfold revV revC; rw [if_pos h, if_pos h]; exact ⟨rfl, rfl⟩
theorem rev_inv {x : TunD} (h : ¬ validTunB x = true) : revV x = ⟨.empty, []⟩ ∧ revC x = 1 := by unfold revV revC; rw [if_neg h, if_neg h]; exact ⟨rfl, rfl⟩
theorem endOf_bd {xs : List Ton} (h : TonesOk xs) : 0 ≤ endOf xs ∧ endOf xs ≤ 20000 := by
  have : ∀ k, k ≤ xs.length → 0 ≤ endOf (xs.take k) ∧ endOf (xs.take k) ≤ 20000 := by
    intro k
    induction k with
    | zero => intro _; rw [endOf_zero]; omega
    | succ k ih =>
      intro hk
      have h1 := ih (by omega)
      rw [endOf_step xs (by omega)]
      have h2 := (h k (by omega) (by omega)).1.fits
      omega
  have h1 := this xs.length (Nat.le_refl _)
  rwa [List.take_length] at h1

end Go.Proofs.YtgdfecnpkjnhnaaGreatDoor
/- A drawn tune turned round twice is the tune, moved to 0. Plain. -/
set_option linter.unusedSimpArgs false
set_option linter.unnecessarySimpa false
set_option linter.unusedVariables false
set_option maxRecDepth 100000
namespace Go.Proofs.YtgdfecnpkjnhnaaGreatDoor
open Go.RowKit

theorem endOf_fold (xs : List Ton) : ∀ a : Int, a ≤ xs.foldl (fun e x => max e (x.start + x.len)) a ∧ (∀ t ∈ xs, t.start + t.len ≤ xs.foldl (fun e x => max e (x.start + x.len)) a) ∧ (xs.foldl (fun e x => max e (x.start + x.len)) a = a ∨ ∃ t ∈ xs, xs.foldl (fun e x => max e (x.start + x.len)) a = t.start + t.len) := by
  induction xs with
  | nil => intro a; exact ⟨Int.le_refl _, (fun t h => by cases h), Or.inl rfl⟩
  | cons y ys ih =>
    intro a
    obtain ⟨h1, h2, h3⟩ := ih (max a (y.start + y.len))
    simp only [List.foldl_cons]
    refine ⟨by omega, fun t ht => ?_, ?_⟩
    · rcases List.mem_cons.1 ht with rfl | ht
      · omega
      · exact h2 t ht
    · rcases h3 with h3 | ⟨t, ht, h3⟩
      · rcases Int.le_total a (y.start + y.len) with h | h
        · exact .inr ⟨y, List.mem_cons_self .., by rw [h3]; omega⟩
        · exact .inl (by rw [h3]; omega)
      · exact .inr ⟨t, List.mem_cons_of_mem _ ht, h3⟩
theorem endOf_ge {xs : List Ton} {t : Ton} (h : t ∈ xs) : t.start + t.len ≤ endOf xs := (endOf_fold xs 0).2.1 t h
theorem endOf_at (xs : List Ton) : endOf xs = 0 ∨ ∃ t ∈ xs, endOf xs = t.start + t.len := (endOf_fold xs 0).2.2

/-- The start of the first tone. -/
def st0 (xs : List Ton) : Int := (xs.head?.map (·.start)).getD 0
def shf0 (s : Int) (x : Ton) : Ton := ⟨x.note, x.start - s, x.len⟩
theorem st0_le {xs : List Ton} (h : TonesOk xs) {t : Ton} (ht : t ∈ xs) : st0 xs ≤ t.start := by
  have hs := tones_stc h
  cases xs with
  | nil => cases ht
  | cons y ys =>
    simp only [st0, List.head?_cons, Option.map_some, Option.getD_some]
    rcases List.mem_cons.1 ht with rfl | ht
    · omega
    · have := (List.pairwise_cons.1 hs).1 t ht
      unfold before at this
      omega
theorem st0_mem {xs : List Ton} (h : xs ≠ []) : ∃ t ∈ xs, st0 xs = t.start := by
  cases xs with
  | nil => exact absurd rfl h
  | cons y ys => exact ⟨y, List.mem_cons_self .., rfl⟩

/-- The end of the tune turned round. -/
theorem rev_end {xs s : List Ton} (h : TonesOk xs) (hne : xs ≠ []) (hp : s.Perm (xs.map (revF (endOf xs)))) : endOf s = endOf xs - st0 xs := by
  have hm : ∀ t, t ∈ s ↔ ∃ u ∈ xs, revF (endOf xs) u = t := fun t => by rw [hp.mem_iff, List.mem_map]
  obtain ⟨u0, hu0, e0⟩ := st0_mem hne
  have hl0 : 0 ≤ u0.len := by
    obtain ⟨k, hk, rfl⟩ := List.getElem_of_mem hu0
    have := (h k hk hk).1.fits
    omega
  have h1 := endOf_ge hu0
  have h2 := endOf_ge ((hm _).2 ⟨u0, hu0, rfl⟩)
  simp only [revF] at h2
  rcases endOf_at s with h3 | ⟨t, ht, h3⟩
  · omega
  · obtain ⟨u, hu, rfl⟩ := (hm _).1 ht
    have := st0_le h hu
    simp only [revF] at h3
    omega

theorem rev_twice {x : TunD} (h : validTunB x = true) (hc : revC x = 0) :
    validTunB (revV x) = true ∧ (revV x).tones.length = x.tones.length ∧ revC (revV x) = 0 ∧ (revV (revV x)).tones = x.tones.map (shf0 (st0 x.tones)) ∧ (x.tones ≠ [] → endOf (revV x).tones = endOf x.tones - st0 x.tones) ∧ (x.tones = [] → endOf (revV x).tones = 0) := by
  have ho := validTunB_iff.1 h
  obtain ⟨e1, e2⟩ := rev_yes h
  rw [e2] at hc
  have hv : validTunB ⟨x.name, sortT (x.tones.map (revF (endOf x.tones)))⟩ = true := by
    unfold toC at hc
    split at hc
    · assumption
    · cases hc
  have e3 : revV x = ⟨x.name, sortT (x.tones.map (revF (endOf x.tones)))⟩ := by rw [e1]; unfold toV; rw [if_pos hv]
  have hp := sortT_perm (x.tones.map (revF (endOf x.tones)))
  rw [e3]
  simp only
  generalize sortT (x.tones.map (revF (endOf x.tones))) = s at hv hp
  have hl : s.length = x.tones.length := by rw [hp.length_eq, List.length_map]
  obtain ⟨f1, f2⟩ := rev_yes hv
  simp only at f1 f2
  have hend : x.tones ≠ [] → endOf s = endOf x.tones - st0 x.tones := fun hne => rev_end ho.tones hne hp
  have hperm : (x.tones.map (shf0 (st0 x.tones))).Perm (s.map (revF (endOf s))) := by
    by_cases hne : x.tones = []
    · rw [hne] at hp ⊢
      have : s = [] := by simpa using hp
      subst this
      simp
    · have := (hp.map (revF (endOf s))).symm
      rw [List.map_map] at this
      have e : x.tones.map (shf0 (st0 x.tones)) = x.tones.map (revF (endOf s) ∘ revF (endOf x.tones)) := by
        refine List.map_congr_left fun t ht => ?_
        simp only [shf0, Function.comp, revF, Ton.mk.injEq, true_and, and_true]
        rw [hend hne]; omega
      rw [e]; exact this
  have hst : Stc (x.tones.map (shf0 (st0 x.tones))) := by
    unfold Stc
    rw [List.pairwise_map]
    exact (tones_stc ho.tones).imp fun hb => by unfold before at *; simp only [shf0]; omega
  have hval : validTunB ⟨x.name, x.tones.map (shf0 (st0 x.tones))⟩ = true := by
    refine validTunB_iff.2 ⟨ho.name, by simpa using ho.len, fun k hk hk2 => ⟨?_, fun h0 => ?_⟩⟩
    · simp only [List.length_map] at hk
      simp only [List.getElem_map]
      have h1 := (ho.tones k hk hk).1
      have h2 := st0_le ho.tones (List.getElem_mem hk)
      have h3 : 0 ≤ st0 x.tones := by
        obtain ⟨u, hu, e⟩ := st0_mem (xs := x.tones) (by intro e; rw [e] at hk; cases hk)
        obtain ⟨j, hj, rfl⟩ := List.getElem_of_mem hu
        have := (ho.tones j hj hj).1.fits
        omega
      obtain ⟨a1, a2, a3⟩ := (TonOk.iff' _).1 h1
      refine (TonOk.iff' _).2 ⟨a1, ?_, ?_⟩ <;> simp only [shf0] <;> omega
    · exact List.pairwise_iff_getElem.1 hst (k - 1) k (by simp only at hk; omega) hk (by omega)
  obtain ⟨g1, g2⟩ := to_yes hperm (hst.imp fun hb => leT_of hb) hval
  refine ⟨hv, hl, by rw [f2, g2], by rw [f1, g1], hend, fun hne => ?_⟩
  rw [hne] at hl
  have : s = [] := List.length_eq_zero_iff.1 hl
  rw [this]; rfl

theorem rev_code {x : TunD} (h : validTunB x = true) (hc : ¬ revC x = 0) : revC x = 6 := by
  rw [(rev_yes h).2] at *
  unfold toC at *
  split at hc
  · exact absurd rfl hc
  · rename_i g; rw [if_neg g]

end Go.Proofs.YtgdfecnpkjnhnaaGreatDoor
/- Contract of spec.l25Done. -/
set_option linter.unusedSimpArgs false
set_option linter.unnecessarySimpa false
set_option linter.unusedVariables false
set_option maxRecDepth 100000
namespace Go.Proofs.YtgdfecnpkjnhnaaGreatDoor
open Go.RowKit

end Go.Proofs.YtgdfecnpkjnhnaaGreatDoor
/- Contract of spec.l25Own. -/
set_option linter.unusedSimpArgs false
set_option linter.unnecessarySimpa false
set_option linter.unusedVariables false
set_option maxRecDepth 100000
namespace Go.Proofs.YtgdfecnpkjnhnaaGreatDoor
open Go.RowKit

end Go.Proofs.YtgdfecnpkjnhnaaGreatDoor
/- Contract of slices.Clone at tones. -/
set_option linter.unusedSimpArgs false
set_option linter.unnecessarySimpa false
set_option linter.unusedVariables false
set_option maxRecDepth 100000
namespace Go.Proofs.YtgdfecnpkjnhnaaGreatDoor
open Go.RowKit

set_option maxHeartbeats 400000 in
theorem cloneTon_any (v : Value) (xs : List Ton) (w : World) (h : Tons w v xs) (hs : xs.length ≤ 1048576) :
    Calls Tryz.prog 55 #[v] w fun e w' => ∃ v', e = .returned v' ∧ OwnRow w.heap.size w'.heap.size w' 50 3 v' xs.length (xs.flatMap Ton.cells) ∧ Below w.heap.size w w' := by
  obtain ⟨a, ca, rfl, hca, hcm, _⟩ := id h
  have en := fun w => Lib.run_eql_slice_nil (P := Tryz.prog) w 24 50 a xs.length ca 0 0 Tryz.underlying24
  rcases a with _ | ad
  · have hx : xs = [] := by
      rcases xs with _ | ⟨x, r⟩
      · rfl
      · obtain ⟨_, _, e, _⟩ := h.at (k := 0) (by simp); cases e
    subst hx
    simp only [List.length_nil] at en
    go_enter Tryz.func55, Tryz.ntmps55
    go_wp2
    go_ret
    exact ⟨_, rfl, ⟨owns_nil _ _ _ _, fun k hk => by simp [Value.ownBlock] at hk⟩, Below.refl _ _⟩
  · go_enter Tryz.func55, Tryz.ntmps55
    go_wp2_with (at_builtin; refine append_all rfl _ _ 24 rfl w.heap.size 50 _ 3 24 Tryz.underlying24 info_Tone rfl (by decide) (.slice (some ⟨w.heap.size, 0, none⟩) 0 0) 0 [] rfl (owns_empty w 50 3 _ (Nat.le_refl _)) (.slice (some ad) xs.length ca) xs.length (xs.flatMap Ton.cells) rfl (h.mono (by (repeat (first | with_reducible exact Below.refl _ _ | with_reducible exact hbw | (with_reducible refine Below.setCell ?_ ?_ _; rotate_left; · first | exact Nat.le_refl _ | omega | (simp; done) | (simp; omega)) | (with_reducible refine Below.alloc ?_ ?_ _; rotate_left; · first | exact Nat.le_refl _ | omega | (simp; done) | (simp; omega)) | with_reducible refine below_drewN ?_ _ | with_reducible refine Below.drew ?_)))) (Ton.len_cells xs) (Ton.one xs) (by omega) (by decide) (by simp) ?_)
    intro a' c' w1 ho hg hb
    go_wp2
    go_ret
    exact ⟨_, rfl, OwnRow.mk' (by simpa using ho), Below.trans (by (repeat (first | with_reducible exact Below.refl _ _ | with_reducible exact hbw | (with_reducible refine Below.setCell ?_ ?_ _; rotate_left; · first | exact Nat.le_refl _ | omega | (simp; done) | (simp; omega)) | (with_reducible refine Below.alloc ?_ ?_ _; rotate_left; · first | exact Nat.le_refl _ | omega | (simp; done) | (simp; omega)) | with_reducible refine below_drewN ?_ _ | with_reducible refine Below.drew ?_))) hb⟩

end Go.Proofs.YtgdfecnpkjnhnaaGreatDoor
