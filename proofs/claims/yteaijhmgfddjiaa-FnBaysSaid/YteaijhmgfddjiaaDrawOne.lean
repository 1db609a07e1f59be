/- The reference's draw of a casting. -/
import Derived.Test.YteaijhmgfddjiaaAmong
import Derived.Test.YteaijhmgfddjiaaBayW
set_option linter.unusedSimpArgs false
set_option linter.unnecessarySimpa false
set_option linter.unusedVariables false
set_option maxRecDepth 100000
namespace Go.Proofs.Yteaijhmgfddjiaa
open Go.RowKit

theorem text_lit (w0 : World) (p n : Nat) (cv : Value) (bs : List Int) (ss : List ByteArray) (k H : Nat) (w : World) (h0 : Byts w0 cv bs) (ok : okByts bs) (h : Src w0 w p cv n) (hn : n ≤ 900000000) (hH : w.heap.size = H) (hk : ss.length = k) (hl : 1 ≤ ss.length) (hl2 : ss.length ≤ 1000) :
    Calls Try.prog 75 #[.pointer (some ⟨p, 0, none⟩), .slice (some ⟨H, 0, none⟩) k k] (w.alloc (.cells (ss.map Value.string).toArray 9)) fun e w' => ∃ (r : ByteArray) (m : Nat), e = .returned (.string r) ∧ r ∈ ss ∧ n ≤ m ∧ m ≤ n + 2 ∧ Src w0 w' p cv m ∧ Touch p (p + 1) w w' := by
  subst hk
  have S0 : Sl (w.alloc (.cells (ss.map Value.string).toArray 9)) (.slice (some ⟨H, 0, none⟩) ss.length ss.length) ss.length (ss.map Value.string) := sl_lit w _ _ _ _ hH (by unfold maxLen; omega)
  have hp := h.lt
  refine (text_any w0 p n cv bs _ ss _ h0 ok (h.mono (belowA _ _)) hn S0 hl hl2 (fun w' t => S0.touchQ t (.inr (by omega)))).mono ?_
  rintro e w' ⟨r, m, rfl, h1, h2, h3, h4, h5⟩
  exact ⟨r, m, rfl, h1, h2, h3, h4, ((Touch.refl _ _ _).alloc _).trans h5⟩

/-- Numbers that are drawn. -/
def smB (n : Int) : Prop := -1 ≤ n ∧ n ≤ 2000000
theorem smB_i64 {n : Int} (h : smB n) : I64 n := by unfold smB at h; simp only [I64, Lit.wf, IntKind.min, IntKind.max, IntKind.signed, IntKind.bits]; simp; omega
structure smC (x : CasD) : Prop where
  bell : x.bell.size ≤ 20
  radius : smB x.radius
  depth : smB x.depth
  thick : smB x.thick
  since : smB x.since
structure smP (x : BayD) : Prop where
  id : x.id.size ≤ 20
  radius : smB x.radius
  depth : smB x.depth
theorem smC.ok {x : CasD} (h : smC x) : x.ok := ⟨by have := h.bell; unfold maxLen; omega, smB_i64 h.radius, smB_i64 h.depth, smB_i64 h.thick, smB_i64 h.since⟩
theorem smP.ok {x : BayD} (h : smP x) : x.ok := ⟨by have := h.id; unfold maxLen; omega, smB_i64 h.radius, smB_i64 h.depth⟩
/-- A store into field j of the block q, made here. -/
theorem field_setB {w0 w W : World} {p m q r j : Nat} {cv u : Value} {cs cs0 : List Value} (BQ : Box W q cs) (B0 : Box W r cs0) (HS : Src w0 W p cv m) (HT : Touch p (p + 1) w W) (hpq : p < q) (hwq : w.heap.size ≤ q) (hw0 : w0.heap.size ≤ q) (hr : r < q) (hj : j < cs.length) :
    Box (W.setCell ⟨q, j, none⟩ u) q (cs.set j u) ∧ Box (W.setCell ⟨q, j, none⟩ u) r cs0 ∧ Src w0 (W.setCell ⟨q, j, none⟩ u) p cv m ∧ Touch p (p + 1) w (W.setCell ⟨q, j, none⟩ u) ∧ (W.setCell ⟨q, j, none⟩ u).heap.size = W.heap.size := by
  have t : Touch q (q + 1) W (W.setCell ⟨q, j, none⟩ u) := (Touch.refl _ _ W).setCell (p := ⟨q, j, none⟩) (by simp) _
  exact ⟨BQ.set u hj, B0.touch t (.inl hr), HS.touch t (.inl hpq) hw0, HT.setNew (p := ⟨q, j, none⟩) hwq _, by simp [World.setCell]⟩

set_option maxHeartbeats 2000000 in
theorem l16DrawOne_any (w0 : World) (p n : Nat) (cv : Value) (bs : List Int) (w : World) (h0 : Byts w0 cv bs) (ok : okByts bs) (h : Src w0 w p cv n) (hn : n ≤ 800000000) :
    Calls Try.prog 57 #[.pointer (some ⟨p, 0, none⟩)] w fun e w' => ∃ (x : CasD) (m : Nat), e = .returned (.agg #[.string x.bell, .int .i64 x.radius, .int .i64 x.depth, .int .i64 x.thick, .int .i64 x.since]) ∧ smC x ∧ n ≤ m ∧ m ≤ n + 20 ∧ Src w0 w' p cv m ∧ Touch p (p + 1) w w' := by
  have HS := Lib.hid h
  have hlt := h.lt
  have hlow := h.low
  clear h
  go_enter Try.func57, Try.ntmps57
  go_wp2_with fail
  have B0 := Lib.hid (Box.alloc w [.string ⟨#[]⟩, .int .i64 0, .int .i64 0, .int .i64 0, .int .i64 0] 41 w.heap.size rfl)
  refine (text_lit w0 p n cv bs [⟨#[99, 52]⟩, ⟨#[100, 52]⟩, ⟨#[101, 52]⟩, ⟨#[103, 52]⟩, ⟨#[97, 52]⟩, ⟨#[99, 53]⟩] 6 (w.heap.size + 1) _ h0 ok (HS.out.mono (by (repeat (first | with_reducible exact Below.refl _ _ | with_reducible exact hbw | (with_reducible refine Below.setCell ?_ ?_ _; rotate_left; · first | exact Nat.le_refl _ | omega | (simp; done) | (simp; omega)) | (with_reducible refine Below.alloc ?_ ?_ _; rotate_left; · first | exact Nat.le_refl _ | omega | (simp; done) | (simp; omega)) | with_reducible refine below_drewN ?_ _ | with_reducible refine Below.drew ?_)))) (by omega) (by simp) rfl (by simp) (by simp)).mono ?_
  rintro e w1 ⟨s1, m1, rfl, sh, m10, m11, hs1, ht1⟩
  have HSZ := Lib.hid (show s1.size ≤ 20 by
    simp only [List.mem_cons, List.not_mem_nil, or_false] at sh
    rcases sh with rfl | rfl | rfl | rfl | rfl | rfl <;> decide)
  have z1 := ht1.size
  simp at z1
  have B0 := Lib.hid (B0.out.touch ht1 (.inr (by omega)))
  have HS1 := Lib.hid hs1
  have HT1 := Lib.hid (show Touch p (p + 1) w w1 from ((Touch.refl _ _ _).alloc _).trans ht1)
  clear hs1 ht1 sh
  obtain ⟨q, hq⟩ : ∃ q, q = w1.heap.size := ⟨_, rfl⟩
  go_wp2_with fail
  rw [← hq]
  obtain ⟨W1, hW1⟩ : ∃ W1, W1 = w1.alloc (.cells #[.string s1, .int .i64 0, .int .i64 0, .int .i64 0, .int .i64 0] 41) := ⟨_, rfl⟩
  have FQ := Lib.hid (show Box W1 q [.string s1, .int .i64 0, .int .i64 0, .int .i64 0, .int .i64 0] by rw [hW1]; exact Box.alloc w1 _ _ q hq.symm)
  have F0 := Lib.hid (show Box W1 w.heap.size [.string ⟨#[]⟩, .int .i64 0, .int .i64 0, .int .i64 0, .int .i64 0] by rw [hW1]; exact B0.out.mono (belowA _ _))
  have FS := Lib.hid (show Src w0 W1 p cv m1 by rw [hW1]; exact HS1.out.mono (belowA _ _))
  have FT := Lib.hid (show Touch p (p + 1) w W1 by rw [hW1]; exact HT1.out.alloc _)
  have hz : W1.heap.size = q + 1 := by rw [hW1]; simp; omega
  rw [← hW1]
  have hpq : p < q := by omega
  have hwq : w.heap.size < q := by omega
  clear hW1 HS1 HT1 hq HS B0
  refine (among_lit w0 p m1 cv bs [30000, 40000, 50000, 80000] 4 (q + 1) W1 h0 ok FS.out (by omega) hz rfl (by simp) (by simp)).mono ?_
  rintro e u2 ⟨r2, m2, rfl, rh, m20, m21, hs, ht⟩
  have HR2 := Lib.hid (show smB r2 by simp only [List.mem_cons, List.not_mem_nil, or_false] at rh; unfold smB; omega)
  clear rh
  have zz2 := ht.size
  have b2 := FQ.out.touch ht (.inr (by omega))
  have b0 := F0.out.touch ht (.inr (by omega))
  obtain ⟨fQ, f0, fS, fT, fz⟩ := field_setB (j := 1) (u := .int .i64 r2) b2 b0 hs (FT.out.trans ht) hpq (by omega) (by omega) hwq (by simp)
  have c := b2.at' 1 _ rfl
  have g := b2.fr 1
  have l := b2.lt
  have FQ := Lib.hid fQ; have F0 := Lib.hid f0; have FS := Lib.hid fS; have FT := Lib.hid fT; have FZ := Lib.hid fz
  clear fQ f0 fS fT fz b2 b0 hs ht
  go_wp2_with fail
  generalize u2.setCell ⟨q, 1, none⟩ (.int .i64 r2) = W2 at FQ F0 FS FT FZ ⊢
  have hz2 := FZ.out
  clear c g l
  have hzq : q < u2.heap.size := by omega
  refine (among_lit w0 p m2 cv bs [30000, 50000, 80000] 3 u2.heap.size W2 h0 ok FS.out (by omega) hz2 rfl (by simp) (by simp)).mono ?_
  rintro e u3 ⟨r3, m3, rfl, rh, m30, m31, hs, ht⟩
  have HR3 := Lib.hid (show smB r3 by simp only [List.mem_cons, List.not_mem_nil, or_false] at rh; unfold smB; omega)
  clear rh
  have zz3 := ht.size
  have b2 := FQ.out.touch ht (.inr (by omega))
  have b0 := F0.out.touch ht (.inr (by omega))
  obtain ⟨fQ, f0, fS, fT, fz⟩ := field_setB (j := 2) (u := .int .i64 r3) b2 b0 hs (FT.out.trans ht) hpq (by omega) (by omega) hwq (by simp)
  have c := b2.at' 2 _ rfl
  have g := b2.fr 2
  have l := b2.lt
  have FQ := Lib.hid fQ; have F0 := Lib.hid f0; have FS := Lib.hid fS; have FT := Lib.hid fT; have FZ := Lib.hid fz
  clear fQ f0 fS fT fz b2 b0 hs ht
  go_wp2_with fail
  generalize u3.setCell ⟨q, 2, none⟩ (.int .i64 r3) = W3 at FQ F0 FS FT FZ ⊢
  have hz3 := FZ.out
  clear c g l
  refine (pick_any w0 p m3 cv bs 60 _ h0 ok FS.out (by omega) (by omega) (by omega)).mono ?_
  rintro e u4 ⟨k4, m4, rfl, k40, k41, m40, m41, hs, ht⟩
  have wr1 : IntKind.i64.wrap (k4 * 100) = k4 * 100 := IntWalk.i64_in _ (by omega)
  have wr2 : IntKind.i64.wrap (2000 + k4 * 100) = 2000 + k4 * 100 := IntWalk.i64_in _ (by omega)
  have HR4 := Lib.hid (show smB (2000 + k4 * 100) by unfold smB; omega)
  have zz4 := ht.size
  have b2 := FQ.out.touch ht (.inr (by omega))
  have b0 := F0.out.touch ht (.inr (by omega))
  obtain ⟨fQ, f0, fS, fT, fz⟩ := field_setB (j := 3) (u := .int .i64 (2000 + k4 * 100)) b2 b0 hs (FT.out.trans ht) hpq (by omega) (by omega) hwq (by simp)
  have c := b2.at' 3 _ rfl
  have g := b2.fr 3
  have l := b2.lt
  have FQ := Lib.hid fQ; have F0 := Lib.hid f0; have FS := Lib.hid fS; have FT := Lib.hid fT; have FZ := Lib.hid fz
  clear fQ f0 fS fT fz b2 b0 hs ht
  go_wp2_with fail
  generalize u4.setCell ⟨q, 3, none⟩ (.int .i64 (2000 + k4 * 100)) = W4 at FQ F0 FS FT FZ ⊢
  have hz4 := FZ.out
  clear c g l
  refine (pick_any w0 p m4 cv bs 30 _ h0 ok FS.out (by omega) (by omega) (by omega)).mono ?_
  rintro e u5 ⟨k5, m5, rfl, k50, k51, m50, m51, hs, ht⟩
  have wr3 : IntKind.i64.wrap (k5 * 60) = k5 * 60 := IntWalk.i64_in _ (by omega)
  have HR5 := Lib.hid (show smB (k5 * 60) by unfold smB; omega)
  have zz5 := ht.size
  have b2 := FQ.out.touch ht (.inr (by omega))
  have b0 := F0.out.touch ht (.inr (by omega))
  have HS5 := Lib.hid hs; have HT5 := Lib.hid (FT.out.trans ht)
  have c0 := b2.at' 0 _ rfl
  have c1 := b2.at' 1 _ rfl
  have c2 := b2.at' 2 _ rfl
  have c3 := b2.at' 3 _ rfl
  have c4 := b2.at' 4 _ rfl
  have g4 := b2.fr 4
  have lq := b2.lt
  have y0 := b0.at' 0 _ rfl
  have y1 := b0.at' 1 _ rfl
  have y2 := b0.at' 2 _ rfl
  have y3 := b0.at' 3 _ rfl
  have y4 := b0.at' 4 _ rfl
  have e0 := b0.fr 0
  have e1 := b0.fr 1
  have e2 := b0.fr 2
  have e3 := b0.fr 3
  have e4 := b0.fr 4
  have l0 := b0.lt
  have ne : ¬ w.heap.size = q := by omega
  have ne2 : ¬ q = w.heap.size := by omega
  clear b2 b0 hs ht FQ F0 FS FT FZ
  go_wp2
  have t1 : Touch q (q + 1) u5 (u5.setCell ⟨q, 4, none⟩ (.int .i64 (k5 * 60))) := (Touch.refl _ _ u5).setCell (p := ⟨q, 4, none⟩) (by simp) _
  have t2 : Touch w.heap.size (w.heap.size + 1) (u5.setCell ⟨q, 4, none⟩ (.int .i64 (k5 * 60))) (((((u5.setCell ⟨q, 4, none⟩ (.int .i64 (k5 * 60))).setCell ⟨w.heap.size, 0, none⟩ (.string s1)).setCell ⟨w.heap.size, 1, none⟩ (.int .i64 r2)).setCell ⟨w.heap.size, 2, none⟩ (.int .i64 r3)).setCell ⟨w.heap.size, 3, none⟩ (.int .i64 (2000 + k4 * 100)) |>.setCell ⟨w.heap.size, 4, none⟩ (.int .i64 (k5 * 60))) :=
    (((((Touch.refl _ _ _).setCell (p := ⟨_, 0, none⟩) (by simp) _).setCell (p := ⟨_, 1, none⟩) (by simp) _).setCell (p := ⟨_, 2, none⟩) (by simp) _).setCell (p := ⟨_, 3, none⟩) (by simp) _).setCell (p := ⟨_, 4, none⟩) (by simp) _
  have hs6 := HS5.out.touch t1 (.inl hpq) (by omega)
  refine bodyPost_ret (v := .agg #[.string s1, .int .i64 r2, .int .i64 r3, .int .i64 (2000 + k4 * 100), .int .i64 (k5 * 60)]) (by simp [results, Try.results57, go_sem, y0, y1, y2, y3, y4, e0, e1, e2, e3, e4, l0, c4, g4, lq, ne, ne2]) rfl ⟨⟨s1, r2, r3, 2000 + k4 * 100, k5 * 60⟩, m5, rfl, ⟨HSZ.out, HR2.out, HR3.out, HR4.out, HR5.out⟩, by omega, by omega, hs6.touch t2 (.inl (by omega)) (by omega), ?_⟩
  exact (((((HT5.out.setNew (p := ⟨q, 4, none⟩) (by simp only; omega) _).setNew (p := ⟨w.heap.size, 0, none⟩) (by simp) _).setNew (p := ⟨w.heap.size, 1, none⟩) (by simp) _).setNew (p := ⟨w.heap.size, 2, none⟩) (by simp) _).setNew (p := ⟨w.heap.size, 3, none⟩) (by simp) _).setNew (p := ⟨w.heap.size, 4, none⟩) (by simp) _

end Go.Proofs.Yteaijhmgfddjiaa
