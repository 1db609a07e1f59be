/- The reference's draws of actions: numbers of bounded size. Contract of l24DrawOne. -/
import Derived.Test.YtijhlllajddlpaaDoorBox
import Derived.Test.YtijhlllajddlpaaDoorRegT
import Derived.Test.YtijhlllajddlpaaDoorKAct
set_option linter.unusedSimpArgs false
set_option linter.unnecessarySimpa false
set_option linter.unusedVariables false
set_option maxRecDepth 100000
namespace Go.Proofs.YtijhlllajddlpaaDoor
open Go.RowKit

/-- Numbers that are drawn. -/
def smN (n : Int) : Prop := -1 ≤ n ∧ n ≤ 2000000
structure smA (x : ActD) : Prop where
  note : smN x.note
  slack : smN x.slack
  weight : smN x.weight
  levs : ∀ l ∈ x.levs, smN l.inn ∧ smN l.out
  len : x.levs.length ≤ 8
/-- A list of numbers as written, then among it. -/
theorem among_lit (w0 : World) (p n : Nat) (cv : Value) (bs : List Int) (xs : List Int) (k H : Nat) (w : World) (h0 : Byts w0 cv bs) (ok : okByts bs) (h : Src w0 w p cv n) (hn : n ≤ 900000000) (hH : w.heap.size = H) (hk : xs.length = k) (hl : 1 ≤ xs.length) (hl2 : xs.length ≤ 1000) :
    Calls Tryd.prog 39 #[.pointer (some ⟨p, 0, none⟩), .slice (some ⟨H, 0, none⟩) k k] (w.alloc (.cells (xs.map (Value.int .i64)).toArray 2)) fun e w' => ∃ (r : Int) (m : Nat), e = .returned (.int .i64 r) ∧ r ∈ xs ∧ n ≤ m ∧ m ≤ n + 2 ∧ Src w0 w' p cv m ∧ Touch p (p + 1) w w' := by
  subst hk
  have S0 : Sl (w.alloc (.cells (xs.map (Value.int .i64)).toArray 2)) (.slice (some ⟨H, 0, none⟩) xs.length xs.length) xs.length (xs.map (Value.int .i64)) := sl_lit w _ _ _ _ hH (by unfold maxLen; omega)
  have hp := h.lt
  refine (among_any w0 p n cv bs _ xs _ h0 ok (h.mono (belowA _ _)) hn S0 hl hl2 (fun w' t => S0.touchQ t (.inr (by omega)))).mono ?_
  rintro e w' ⟨r, m, rfl, h1, h2, h3, h4, h5⟩
  exact ⟨r, m, rfl, h1, h2, h3, h4, ((Touch.refl _ _ _).alloc _).trans h5⟩

theorem owns_ne {w : World} {base : Nat} {e : TypeId} {size n : Nat} {v : Value} {cs : List Value} (h : w.ownsRow base e size v n cs) {b o : Nat} (hb : ∀ q, v.ownBlock = some q → q ≠ b) (u : Value) : (w.setCell ⟨b, o, none⟩ u).ownsRow base e size v n cs := by
  refine ⟨h.1, ?_⟩
  rcases h.2 with h2 | ⟨g, cap, cur, rfl, x1, x2, x3⟩
  · exact .inl h2
  · have hg : g ≠ b := hb g rfl
    exact .inr ⟨g, cap, cur, rfl, x1, (Below.heap_setCell _ _ _ _ (by simpa using hg)).trans x2, x3⟩
/-- A store into field j of the block q, made here. -/
theorem field_set {w0 w W : World} {p m q r j : Nat} {cv u : Value} {cs cs0 : List Value} (BQ : Box W q cs) (B0 : Box W r cs0) (HS : Src w0 W p cv m) (HT : Touch p (p + 1) w W) (hpq : p < q) (hwq : w.heap.size ≤ q) (hw0 : w0.heap.size ≤ q) (hr : r < q) (hj : j < cs.length) :
    Box (W.setCell ⟨q, j, none⟩ u) q (cs.set j u) ∧ Box (W.setCell ⟨q, j, none⟩ u) r cs0 ∧ Src w0 (W.setCell ⟨q, j, none⟩ u) p cv m ∧ Touch p (p + 1) w (W.setCell ⟨q, j, none⟩ u) ∧ (W.setCell ⟨q, j, none⟩ u).heap.size = W.heap.size := by
  have t : Touch q (q + 1) W (W.setCell ⟨q, j, none⟩ u) := (Touch.refl _ _ W).setCell (p := ⟨q, j, none⟩) (by simp) _
  exact ⟨BQ.set u hj, B0.touch t (.inl hr), HS.touch t (.inl hpq) hw0, HT.setNew (p := ⟨q, j, none⟩) hwq _, by simp [World.setCell]⟩

set_option maxHeartbeats 2000000 in
theorem l24DrawOne_any (w0 : World) (p n : Nat) (cv : Value) (bs : List Int) (w : World) (h0 : Byts w0 cv bs) (ok : okByts bs) (h : Src w0 w p cv n) (hn : n ≤ 800000000) :
    Calls Tryd.prog 36 #[.pointer (some ⟨p, 0, none⟩)] w fun e w' => ∃ (v' : Value) (x : ActD) (m : Nat), e = .returned v' ∧ OwnAct w.heap.size w'.heap.size w' v' x ∧ smA x ∧ x.levs.length ≤ 3 ∧ n ≤ m ∧ m ≤ n + 30 ∧ Src w0 w' p cv m ∧ Touch p (p + 1) w w' := by
  have HS := Lib.hid h
  have hlt := h.lt
  have hlow := h.low
  clear h
  go_enter Tryd.func36, Tryd.ntmps36
  go_wp2_with fail
  have B0 := Lib.hid (Box.alloc w [.int .i64 0, .slice none 0 0, .int .i64 0, .int .i64 0] 29 w.heap.size rfl)
  refine (pick_any w0 p n cv bs 40 _ h0 ok (HS.out.mono (by (repeat (first | with_reducible exact Below.refl _ _ | with_reducible exact hbw | (with_reducible refine Below.setCell ?_ ?_ _; rotate_left; · first | exact Nat.le_refl _ | omega | (simp; done) | (simp; omega)) | (with_reducible refine Below.alloc ?_ ?_ _; rotate_left; · first | exact Nat.le_refl _ | omega | (simp; done) | (simp; omega)) | with_reducible refine below_drewN ?_ _ | with_reducible refine Below.drew ?_)))) (by omega) (by omega) (by omega)).mono ?_
  rintro e w1 ⟨r1, m1, rfl, r10, r11, m10, m11, hs1, ht1⟩
  have z1 := ht1.size
  simp at z1
  have B0 := Lib.hid (B0.out.touch ht1 (.inr (by omega)))
  have wn : IntKind.i64.wrap (48 + r1) = 48 + r1 := IntWalk.i64_in _ (by omega)
  have HS1 := Lib.hid hs1
  have HT1 := Lib.hid (show Touch p (p + 1) w w1 from ((Touch.refl _ _ _).alloc _).trans ht1)
  clear hs1 ht1
  obtain ⟨q, hq⟩ : ∃ q, q = w1.heap.size := ⟨_, rfl⟩
  go_wp2_with fail
  rw [← hq]
  obtain ⟨W1, hW1⟩ : ∃ W1, W1 = w1.alloc (.cells #[.int .i64 (48 + r1), .slice none 0 0, .int .i64 0, .int .i64 0] 29) := ⟨_, rfl⟩
  have BQ : Box W1 q [.int .i64 (48 + r1), .slice none 0 0, .int .i64 0, .int .i64 0] := by rw [hW1]; exact Box.alloc w1 _ _ q hq.symm
  have B0 : Box W1 w.heap.size [.int .i64 0, .slice none 0 0, .int .i64 0, .int .i64 0] := by rw [hW1]; exact B0.out.mono (belowA _ _)
  have HS : Src w0 W1 p cv m1 := by rw [hW1]; exact HS1.out.mono (belowA _ _)
  have HT : Touch p (p + 1) w W1 := by rw [hW1]; exact HT1.out.alloc _
  have hz : W1.heap.size = q + 1 := by rw [hW1]; simp; omega
  rw [← hW1]
  have hpq : p < q := by omega
  have hwq : w.heap.size < q := by omega
  clear hW1 HS1 HT1 hq
  refine (among_lit w0 p m1 cv bs [0, 100, 500, 10000] 4 (q + 1) W1 h0 ok HS (by omega) hz rfl (by simp) (by simp)).mono ?_
  rintro e w2 ⟨r2, m2, rfl, r2h, m20, m21, hs2, ht2⟩
  have HR2 := Lib.hid (show smN r2 by simp only [List.mem_cons, List.not_mem_nil, or_false] at r2h; unfold smN; omega)
  have hzz := ht2.size
  obtain ⟨fQ, f0, fS, fT, fz⟩ := field_set (j := 2) (u := .int .i64 r2) (BQ.touch ht2 (.inr (by omega))) (B0.touch ht2 (.inr (by omega))) hs2 (HT.trans ht2) hpq (by omega) (by omega) hwq (by simp)
  have b2 := BQ.touch ht2 (.inr (by omega))
  have c2 := b2.at' 2 _ rfl
  have g2 := b2.fr 2
  have l2 := b2.lt
  have FQ := Lib.hid fQ; have F0 := Lib.hid f0; have FS := Lib.hid fS; have FT := Lib.hid fT; have FZ := Lib.hid fz
  clear fQ f0 fS fT fz b2 BQ B0 HS HT hs2 ht2 r2h hz
  go_wp2_with fail
  generalize w2.setCell ⟨q, 2, none⟩ (.int .i64 r2) = W2 at FQ F0 FS FT FZ ⊢
  have hz2 := FZ.out
  have hzq : q < w2.heap.size := by omega
  refine (among_lit w0 p m2 cv bs [0, 500, 2000, 15000, 1000000] 5 w2.heap.size W2 h0 ok FS.out (by omega) hz2 rfl (by simp) (by simp)).mono ?_
  rintro e w3 ⟨r3, m3, rfl, r3h, m30, m31, hs3, ht3⟩
  have HR3 := Lib.hid (show smN r3 by simp only [List.mem_cons, List.not_mem_nil, or_false] at r3h; unfold smN; omega)
  have hzz3 := ht3.size
  have b3 := FQ.out.touch ht3 (.inr (by omega))
  have b0 := F0.out.touch ht3 (.inr (by omega))
  obtain ⟨fQ, f0, fS, fT, fz⟩ := field_set (j := 3) (u := .int .i64 r3) b3 b0 hs3 (FT.out.trans ht3) hpq (by omega) (by omega) hwq (by simp)
  have c3 := b3.at' 3 _ rfl
  have g3 := b3.fr 3
  have l3 := b3.lt
  have FQ := Lib.hid fQ; have F0 := Lib.hid f0; have FS := Lib.hid fS; have FT := Lib.hid fT; have FZ := Lib.hid fz
  clear fQ f0 fS fT fz b3 b0 hs3 ht3 r3h c2 g2 hz2
  go_wp2_with fail
  generalize w3.setCell ⟨q, 3, none⟩ (.int .i64 r3) = W3 at FQ F0 FS FT FZ ⊢
  have hz3 := FZ.out
  refine (pick_any w0 p m3 cv bs 4 W3 h0 ok FS.out (by omega) (by omega) (by omega)).mono ?_
  rintro e w4 ⟨kk, m4, rfl, kk0, kk1, m40, m41, hs4, ht4⟩
  have hzz4 := ht4.size
  have FQ := Lib.hid (FQ.out.touch ht4 (.inr (by omega)))
  have F0 := Lib.hid (F0.out.touch ht4 (.inr (by omega)))
  have FT := Lib.hid (FT.out.trans ht4)
  have FS := Lib.hid hs4
  have hz4 : q + 1 ≤ w4.heap.size := by omega
  clear hs4 ht4 c3 g3 FZ
  go_wp2_with fail
  go_loopw [4, 5] (fun k _ wr => ∃ (j m : Nat) (kv : Int) (L : List Lev) (a : Option Addr) (c : Nat), k = .int .i64 kv ∧ 0 ≤ kv ∧ (j : Int) + kv ≤ 3 ∧ L.length = j ∧ (∀ l ∈ L, smN l.inn ∧ smN l.out) ∧ n ≤ m ∧ m ≤ n + 8 + 4 * j ∧ Src w0 wr p cv m ∧ Box wr q [.int .i64 (48 + r1), .slice a j c, .int .i64 r2, .int .i64 r3] ∧ Box wr w.heap.size [.int .i64 0, .slice none 0 0, .int .i64 0, .int .i64 0] ∧ wr.ownsRow (q + 1) 54 2 (.slice a j c) j (L.flatMap Lev.cells) ∧ Touch p (p + 1) w wr ∧ q + 1 ≤ wr.heap.size) (fun k _ _ => (intOf k).toNat)
  case atStart => exact ⟨0, m4, kk, [], none, 0, rfl, kk0, by omega, rfl, (fun l hl => by cases hl), by omega, by omega, FS.out, FQ.out, F0.out, by simpa using owns_nil _ _ _ _, FT.out, hz4⟩
  case round =>
    clear FQ F0 FS FT
    obtain ⟨j, m, kv, L, a, c, rfl, kv0, kv1, hL, hsm, hm0, hm1, hs, hQ, h0', ho, ht, hz⟩ := hrel
    have HL := Lib.hid hL; have HSM := Lib.hid hsm; have FS := Lib.hid hs; have FQ := Lib.hid hQ; have F0 := Lib.hid h0'; have HO := Lib.hid ho; have FT := Lib.hid ht
    clear hL hsm hs hQ h0' ho ht
    by_cases hk : 0 < kv
    · have dk : decide (0 < kv) = true := by simpa using hk
      go_wp2_with fail
      refine (among_lit w0 p m cv bs [100, 150, 200, 1, 97, 100000] 6 wr.heap.size wr h0 ok FS.out (by omega) rfl rfl (by simp) (by simp)).mono ?_
      rintro e w5 ⟨x1, m5, rfl, x1h, m50, m51, hs5, ht5⟩
      have HX1 := Lib.hid (show smN x1 by simp only [List.mem_cons, List.not_mem_nil, or_false] at x1h; unfold smN; omega)
      have hzz5 := ht5.size
      have FQ := Lib.hid (FQ.out.touch ht5 (.inr (by omega)))
      have F0 := Lib.hid (F0.out.touch ht5 (.inr (by omega)))
      have HO := Lib.hid (owns_touch HO.out ht5 (by omega))
      have FT := Lib.hid (FT.out.trans ht5)
      obtain ⟨t5, ht5e⟩ : ∃ t5, t5 = w5.heap.size := ⟨_, rfl⟩
      have FS := Lib.hid hs5
      clear hs5 ht5 x1h
      go_wp2_with fail
      rw [← ht5e]
      obtain ⟨W5, hW5⟩ : ∃ W5, W5 = w5.alloc (.cells #[.int .i64 x1, .int .i64 0] 54) := ⟨_, rfl⟩
      have hal : Below w5.heap.size w5 W5 := by rw [hW5]; exact belowA _ _
      have BL : Box W5 t5 [.int .i64 x1, .int .i64 0] := by rw [hW5]; exact Box.alloc w5 _ _ t5 ht5e.symm
      have BQ := FQ.out.mono hal
      have B0 := F0.out.mono hal
      have HNE := Lib.hid (show ∀ b, (Value.slice a j c).ownBlock = some b → b ≠ t5 from fun b hb => by have := (HO.out.lt b hb).2; omega)
      have HO := Lib.hid (owns_mono HO.out hal)
      have FS5 := FS.out.mono hal
      have FT5 : Touch p (p + 1) w W5 := by rw [hW5]; exact FT.out.alloc _
      have hz5 : W5.heap.size = t5 + 1 := by rw [hW5]; simp; omega
      rw [← hW5]
      have hqt : q < t5 := by omega
      clear hW5 hal ht5e
      refine (among_lit w0 p m5 cv bs [100, 80, 200, 300, 89, 1, 100000] 7 (t5 + 1) W5 h0 ok FS5 (by omega) hz5 rfl (by simp) (by simp)).mono ?_
      rintro e w6 ⟨x2, m6, rfl, x2h, m60, m61, hs6, ht6⟩
      have HX2 := Lib.hid (show smN x2 by simp only [List.mem_cons, List.not_mem_nil, or_false] at x2h; unfold smN; omega)
      have hzz6 := ht6.size
      have bl := BL.touch ht6 (.inr (by omega))
      have bq := BQ.touch ht6 (.inr (by omega))
      have b0 := B0.touch ht6 (.inr (by omega))
      obtain ⟨fL, fQ, fS, fT, fz⟩ := field_set (j := 1) (u := .int .i64 x2) bl bq hs6 (FT5.trans ht6) (by omega) (by omega) (by omega) hqt (by simp)
      have f0 := b0.touch ((Touch.refl t5 (t5 + 1) w6).setCell (p := ⟨t5, 1, none⟩) (by simp) (.int .i64 x2)) (.inl (by omega))
      have HO := Lib.hid (owns_ne (o := 1) (owns_touch HO.out ht6 (by omega)) HNE.out (.int .i64 x2))
      have c1 := bl.at' 1 _ rfl
      have g1 := bl.fr 1
      have l1 := bl.lt
      have FQ := Lib.hid fQ; have F0 := Lib.hid f0; have FS := Lib.hid fS; have FT := Lib.hid fT; have FZ := Lib.hid fz; have FL := Lib.hid fL
      have q6 := bq.lt
      have y1 := fQ.at' 1 _ rfl
      have z0 := fL.at' 0 _ rfl
      have z1 := fL.at' 1 _ rfl
      clear fQ f0 fS fT fz fL bl bq b0 hs6 ht6 x2h BL BQ B0 FS5 FT5
      have hzz7 : q + 1 ≤ (w6.setCell ⟨t5, 1, none⟩ (.int .i64 x2)).heap.size := by rw [FZ.out]; omega
      go_wp2_with (at_builtin; refine append_one_at rfl _ _ 27 rfl (q + 1) 54 _ 2 16 Tryd.underlying27 info_Lever rfl (by decide) _ j _ rfl HO.out [.int .i64 x1, .int .i64 x2] rfl (by simp [Value.oneCell']) w6.heap.size FZ.out rfl (by omega) (by decide) hzz7 ?_)
      intro a7 c7 w7 ho7 hg7 hb7 _
      have hst : Below (q + 1) (w6.setCell ⟨t5, 1, none⟩ (.int .i64 x2)) w7 := hb7
      have hz7 := hst.size
      have bq := FQ.out.step hst (by omega)
      obtain ⟨fQ, f0, fS, fT, fz⟩ := field_set (j := 1) (u := .slice a7 (j + 1) c7) bq (F0.out.step hst (by omega)) (FS.out.step (B := q + 1) (by omega) hst) (FT.out.step hst (by omega)) hpq (by omega) (by omega) hwq (by simp)
      have ho8 := ownsRow_setCell_below (a := ⟨q, 1, none⟩) ho7 (by simp) (.slice a7 (j + 1) c7)
      have c7' := bq.at' 1 _ rfl
      have g7 := bq.fr 1
      have l7 := bq.lt
      have GQ := Lib.hid fQ; have G0 := Lib.hid f0; have GS := Lib.hid fS; have GT := Lib.hid fT; have GZ := Lib.hid fz; have GO := Lib.hid ho8
      have hz8 : q + 1 ≤ (w7.setCell ⟨q, 1, none⟩ (.slice a7 (j + 1) c7)).heap.size := by rw [fz]; omega
      have HZ8 := Lib.hid hz8
      have wk' : IntKind.i64.wrap (kv - 1) = kv - 1 := IntWalk.i64_in _ (by omega)
      clear fQ f0 fS fT fz ho8 ho7 hg7 hb7 hst c1 g1 y1 z0 z1 FQ F0 FS FT FL HO HNE hz8
      go_wp2
      go_roundw
      case rel =>
        refine ⟨j + 1, m6, kv - 1, L ++ [⟨x1, x2⟩], a7, c7, rfl, by omega, by omega, by simp [HL.out], fun l hl => ?_, by omega, by omega, GS.out, GQ.out, G0.out, by simpa [Lev.cells] using GO.out, GT.out, HZ8.out⟩
        rcases List.mem_append.1 hl with hl | hl
        · exact HSM.out l hl
        · rw [List.mem_singleton.1 hl]; exact ⟨HX1.out, HX2.out⟩
      case measure => simp [intOf]; omega
    · have dk : decide (0 < kv) = false := by simpa using hk
      have hl := HL.out
      subst hl
      have y0 := FQ.out.at' 0 _ rfl
      have y1 := FQ.out.at' 1 _ rfl
      have y2 := FQ.out.at' 2 _ rfl
      have y3 := FQ.out.at' 3 _ rfl
      have r0 := F0.out.at' 0 _ rfl
      have r1' := F0.out.at' 1 _ rfl
      have r2' := F0.out.at' 2 _ rfl
      have r3' := F0.out.at' 3 _ rfl
      have f0 := F0.out.fr 0
      have f1 := F0.out.fr 1
      have f2 := F0.out.fr 2
      have f3 := F0.out.fr 3
      have l7 := F0.out.lt
      have hw0 : w0.heap.size ≤ w.heap.size := by omega
      clear FQ F0
      go_wp2
      refine bodyPost_ret (v := .agg #[.int .i64 (48 + r1), .slice a L.length c, .int .i64 r2, .int .i64 r3]) (by simp [results, Tryd.results36, go_sem, r0, r1', r2', r3', f0, f1, f2, f3, l7]) rfl ⟨_, rfl, ⟨48 + r1, L, r2, r3⟩, ⟨_, rfl, ?_⟩, ⟨by simp only; unfold smN; omega, HR2.out, HR3.out, HSM.out, by simp only; omega⟩, by simp only; omega, m, by omega, by omega, ?_, ?_⟩
      · refine ((OwnRow.mk' HO.out).touch (B' := w.heap.size) (E' := w.heap.size + 1) ?_ (Or.inr (by omega))).wide (by omega) (by simp)
        have htc := Touch.refl w.heap.size (w.heap.size + 1) wr
        (repeat (first | with_reducible exact Touch.refl _ _ _ | with_reducible exact htc | (with_reducible refine Touch.setCell ?_ ?_ _; rotate_left; · (simp only; omega)) | (with_reducible refine Touch.setNew ?_ ?_ _; rotate_left; · (first | (simp only; omega) | (simp; done) | (simp; omega))) | with_reducible refine Touch.alloc ?_ _ | with_reducible refine Touch.drewN ?_ _ | with_reducible refine Touch.drew ?_))
      · refine FS.out.touch (B := w.heap.size) (E := w.heap.size + 1) ?_ (.inl hlt) hw0
        have htc := Touch.refl w.heap.size (w.heap.size + 1) wr
        (repeat (first | with_reducible exact Touch.refl _ _ _ | with_reducible exact htc | (with_reducible refine Touch.setCell ?_ ?_ _; rotate_left; · (simp only; omega)) | (with_reducible refine Touch.setNew ?_ ?_ _; rotate_left; · (first | (simp only; omega) | (simp; done) | (simp; omega))) | with_reducible refine Touch.alloc ?_ _ | with_reducible refine Touch.drewN ?_ _ | with_reducible refine Touch.drew ?_))
      · have htc := FT.out
        (repeat (first | with_reducible exact Touch.refl _ _ _ | with_reducible exact htc | (with_reducible refine Touch.setCell ?_ ?_ _; rotate_left; · (simp only; omega)) | (with_reducible refine Touch.setNew ?_ ?_ _; rotate_left; · (first | (simp only; omega) | (simp; done) | (simp; omega))) | with_reducible refine Touch.alloc ?_ _ | with_reducible refine Touch.drewN ?_ _ | with_reducible refine Touch.drew ?_))

end Go.Proofs.YtijhlllajddlpaaDoor
