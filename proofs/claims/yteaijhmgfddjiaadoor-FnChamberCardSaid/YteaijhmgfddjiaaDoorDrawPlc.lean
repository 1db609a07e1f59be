/- The reference's draw of places. -/
import Derived.Test.YteaijhmgfddjiaaDoorMove
set_option linter.unusedSimpArgs false
set_option linter.unnecessarySimpa false
set_option linter.unusedVariables false
set_option maxRecDepth 100000
namespace Go.Proofs.YteaijhmgfddjiaaDoor
open Go.RowKit

def drawP (x : PlcD) : Prop := (0 ≤ x.x ∧ x.x ≤ 4000) ∧ (0 ≤ x.y ∧ x.y ≤ 4000) ∧ (1000 ≤ x.z ∧ x.z ≤ 1500) ∧ (100 ≤ x.reach ∧ x.reach ≤ 800)
/-- A store into field j of the block q, made here. -/
theorem field_setP {w0 w W : World} {p m q r j : Nat} {cv u : Value} {cs cs0 : List Value} (BQ : Box W q cs) (B0 : Box W r cs0) (HS : Src w0 W p cv m) (HT : Touch p (p + 1) w W) (hpq : p < q) (hwq : w.heap.size ≤ q) (hw0 : w0.heap.size ≤ q) (hr : r < q) (hj : j < cs.length) :
    Box (W.setCell ⟨q, j, none⟩ u) q (cs.set j u) ∧ Box (W.setCell ⟨q, j, none⟩ u) r cs0 ∧ Src w0 (W.setCell ⟨q, j, none⟩ u) p cv m ∧ Touch p (p + 1) w (W.setCell ⟨q, j, none⟩ u) ∧ (W.setCell ⟨q, j, none⟩ u).heap.size = W.heap.size := by
  have t : Touch q (q + 1) W (W.setCell ⟨q, j, none⟩ u) := (Touch.refl _ _ W).setCell (p := ⟨q, j, none⟩) (by simp) _
  exact ⟨BQ.set u hj, B0.touch t (.inl hr), HS.touch t (.inl hpq) hw0, HT.setNew (p := ⟨q, j, none⟩) hwq _, by simp [World.setCell]⟩

set_option maxHeartbeats 2000000 in
theorem l23DrawOne_any (s : ByteArray) (w0 : World) (p n : Nat) (cv : Value) (bs : List Int) (w : World) (h0 : Byts w0 cv bs) (ok : okByts bs) (h : Src w0 w p cv n) (hn : n ≤ 800000000) :
    Calls Tryd.prog 28 #[.pointer (some ⟨p, 0, none⟩), .string s] w fun e w' => ∃ (x : PlcD) (m : Nat), e = .returned (.agg #[.string s, .int .i64 x.x, .int .i64 x.y, .int .i64 x.z, .int .i64 x.reach]) ∧ x.bell = s ∧ drawP x ∧ n ≤ m ∧ m ≤ n + 20 ∧ Src w0 w' p cv m ∧ Touch p (p + 1) w w' := by
  have HS := Lib.hid h
  have hlt := h.lt
  have hlow := h.low
  clear h
  go_enter Tryd.func28, Tryd.ntmps28
  go_wp2_with fail
  have B0 := Lib.hid (Box.alloc w [.string ⟨#[]⟩, .int .i64 0, .int .i64 0, .int .i64 0, .int .i64 0] 34 w.heap.size rfl)
  refine (pick_any w0 p n cv bs 400 _ h0 ok (HS.out.mono (belowA _ _)) (by omega) (by omega) (by omega)).mono ?_
  rintro e w1 ⟨r1, m1, rfl, r10, r11, m10, m11, hs1, ht1⟩
  have wx : IntKind.i64.wrap (10 * r1) = 10 * r1 := IntWalk.i64_in _ (by omega)
  have z1 := ht1.size
  simp at z1
  have B0 := Lib.hid (B0.out.touch ht1 (.inr (by omega)))
  have HS1 := Lib.hid hs1
  have HT1 := Lib.hid (show Touch p (p + 1) w w1 from ((Touch.refl _ _ _).alloc _).trans ht1)
  clear hs1 ht1
  go_wp2_with fail
  refine (pick_any w0 p m1 cv bs 700 _ h0 ok HS1.out (by omega) (by omega) (by omega)).mono ?_
  rintro e w2 ⟨r2, m2, rfl, r20, r21, m20, m21, hs2, ht2⟩
  have wre : IntKind.i64.wrap (100 + r2) = 100 + r2 := IntWalk.i64_in _ (by omega)
  have z2 := ht2.size
  have B0 := Lib.hid (B0.out.touch ht2 (.inr (by omega)))
  have HS2 := Lib.hid hs2
  have HT2 := Lib.hid (HT1.out.trans ht2)
  clear hs2 ht2
  obtain ⟨q, hq⟩ : ∃ q, q = w2.heap.size := ⟨_, rfl⟩
  go_wp2_with fail
  rw [← hq]
  obtain ⟨W1, hW1⟩ : ∃ W1, W1 = w2.alloc (.cells #[.string s, .int .i64 (10 * r1), .int .i64 0, .int .i64 0, .int .i64 (100 + r2)] 34) := ⟨_, rfl⟩
  have FQ := Lib.hid (show Box W1 q [.string s, .int .i64 (10 * r1), .int .i64 0, .int .i64 0, .int .i64 (100 + r2)] by rw [hW1]; exact Box.alloc w2 _ _ q hq.symm)
  have F0 := Lib.hid (show Box W1 w.heap.size [.string ⟨#[]⟩, .int .i64 0, .int .i64 0, .int .i64 0, .int .i64 0] by rw [hW1]; exact B0.out.mono (belowA _ _))
  have FS := Lib.hid (show Src w0 W1 p cv m2 by rw [hW1]; exact HS2.out.mono (belowA _ _))
  have FT := Lib.hid (show Touch p (p + 1) w W1 by rw [hW1]; exact HT2.out.alloc _)
  have hz : W1.heap.size = q + 1 := by rw [hW1]; simp; omega
  rw [← hW1]
  have hpq : p < q := by omega
  have hwq : w.heap.size < q := by omega
  clear hW1 HS1 HT1 HS2 HT2 hq HS B0
  refine (pick_any w0 p m2 cv bs 400 _ h0 ok FS.out (by omega) (by omega) (by omega)).mono ?_
  rintro e u3 ⟨k3, m3, rfl, k30, k31, m30, m31, hs, ht⟩
  have wy : IntKind.i64.wrap (10 * k3) = 10 * k3 := IntWalk.i64_in _ (by omega)
  have zz3 := ht.size
  have b2 := FQ.out.touch ht (.inr (by omega))
  have b0 := F0.out.touch ht (.inr (by omega))
  obtain ⟨fQ, f0, fS, fT, fz⟩ := field_setP (j := 2) (u := .int .i64 (10 * k3)) b2 b0 hs (FT.out.trans ht) hpq (by omega) (by omega) hwq (by simp)
  have c := b2.at' 2 _ rfl
  have g := b2.fr 2
  have l := b2.lt
  have FQ := Lib.hid fQ; have F0 := Lib.hid f0; have FS := Lib.hid fS; have FT := Lib.hid fT; have FZ := Lib.hid fz
  clear fQ f0 fS fT fz b2 b0 hs ht
  go_wp2_with fail
  generalize u3.setCell ⟨q, 2, none⟩ (.int .i64 (10 * k3)) = W3 at FQ F0 FS FT FZ ⊢
  have hz3 := FZ.out
  clear c g l
  refine (pick_any w0 p m3 cv bs 50 _ h0 ok FS.out (by omega) (by omega) (by omega)).mono ?_
  rintro e u5 ⟨k5, m5, rfl, k50, k51, m50, m51, hs, ht⟩
  have wz1 : IntKind.i64.wrap (10 * k5) = 10 * k5 := IntWalk.i64_in _ (by omega)
  have wz2 : IntKind.i64.wrap (1000 + 10 * k5) = 1000 + 10 * k5 := IntWalk.i64_in _ (by omega)
  have zz5 := ht.size
  have b2 := FQ.out.touch ht (.inr (by omega))
  have b0 := F0.out.touch ht (.inr (by omega))
  have HS5 := Lib.hid hs; have HT5 := Lib.hid (FT.out.trans ht)
  have c0 := b2.at' 0 _ rfl
  have c1 := b2.at' 1 _ rfl
  have c2 := b2.at' 2 _ rfl
  have c3 := b2.at' 3 _ rfl
  have c4 := b2.at' 4 _ rfl
  have g3 := b2.fr 3
  have lq := b2.lt
  have y0 := b0.at' 0 _ rfl
  have y1 := b0.at' 1 _ rfl
  have y2 := b0.at' 2 _ rfl
  have y3 := b0.at' 3 _ rfl
  have y4 := b0.at' 4 _ rfl
  have e0 := b0.fr 0
  have e1 := b0.fr 1
  have e2 := b0.fr 2
  have e3 := b0.fr 3
  have e4 := b0.fr 4
  have l0 := b0.lt
  have ne : ¬ w.heap.size = q := by omega
  have ne2 : ¬ q = w.heap.size := by omega
  clear b2 b0 hs ht FQ F0 FS FT FZ
  go_wp2
  have t1 : Touch q (q + 1) u5 (u5.setCell ⟨q, 3, none⟩ (.int .i64 (1000 + 10 * k5))) := (Touch.refl _ _ u5).setCell (p := ⟨q, 3, none⟩) (by simp) _
  have t2 : Touch w.heap.size (w.heap.size + 1) (u5.setCell ⟨q, 3, none⟩ (.int .i64 (1000 + 10 * k5))) (((((u5.setCell ⟨q, 3, none⟩ (.int .i64 (1000 + 10 * k5))).setCell ⟨w.heap.size, 0, none⟩ (.string s)).setCell ⟨w.heap.size, 1, none⟩ (.int .i64 (10 * r1))).setCell ⟨w.heap.size, 2, none⟩ (.int .i64 (10 * k3))).setCell ⟨w.heap.size, 3, none⟩ (.int .i64 (1000 + 10 * k5)) |>.setCell ⟨w.heap.size, 4, none⟩ (.int .i64 (100 + r2))) :=
    (((((Touch.refl _ _ _).setCell (p := ⟨_, 0, none⟩) (by simp) _).setCell (p := ⟨_, 1, none⟩) (by simp) _).setCell (p := ⟨_, 2, none⟩) (by simp) _).setCell (p := ⟨_, 3, none⟩) (by simp) _).setCell (p := ⟨_, 4, none⟩) (by simp) _
  have hs6 := HS5.out.touch t1 (.inl hpq) (by omega)
  refine bodyPost_ret (v := .agg #[.string s, .int .i64 (10 * r1), .int .i64 (10 * k3), .int .i64 (1000 + 10 * k5), .int .i64 (100 + r2)]) (by simp [results, Tryd.results28, go_sem, y0, y1, y2, y3, y4, e0, e1, e2, e3, e4, l0, c3, g3, lq, ne, ne2]) rfl ⟨⟨s, 10 * r1, 10 * k3, 1000 + 10 * k5, 100 + r2⟩, m5, rfl, rfl, ⟨⟨by simp only; omega, by simp only; omega⟩, ⟨by simp only; omega, by simp only; omega⟩, ⟨by simp only; omega, by simp only; omega⟩, ⟨by simp only; omega, by simp only; omega⟩⟩, by omega, by omega, hs6.touch t2 (.inl (by omega)) (by omega), ?_⟩
  exact (((((HT5.out.setNew (p := ⟨q, 3, none⟩) (by simp only; omega) _).setNew (p := ⟨w.heap.size, 0, none⟩) (by simp) _).setNew (p := ⟨w.heap.size, 1, none⟩) (by simp) _).setNew (p := ⟨w.heap.size, 2, none⟩) (by simp) _).setNew (p := ⟨w.heap.size, 3, none⟩) (by simp) _).setNew (p := ⟨w.heap.size, 4, none⟩) (by simp) _

def bells : List ByteArray := [⟨#[97]⟩, ⟨#[98]⟩, ⟨#[99]⟩, ⟨#[100]⟩, ⟨#[101]⟩]
theorem bell_ok : ∀ k, k < 5 → NameOk (bells.getD k ⟨#[]⟩) := by decide +kernel
theorem bell_less : ∀ k, k < 5 → 0 < k → Go.Op.bytesLess (bells.getD (k - 1) ⟨#[]⟩).toList (bells.getD k ⟨#[]⟩).toList = true := by decide +kernel
/-- Places that are drawn. -/
structure Drawn (ys : List PlcD) : Prop where
  len : ys.length ≤ 5
  bell : ∀ i (h : i < ys.length), ys[i].bell = bells.getD i ⟨#[]⟩
  dr : ∀ y ∈ ys, drawP y
theorem Drawn.ok {ys : List PlcD} (h : Drawn ys) : PlcsOk ys := by
  have hl := h.len
  refine ⟨fun k hk _ => ⟨?_, fun h0 => ?_⟩, by omega⟩
  · obtain ⟨⟨a1, a2⟩, ⟨a3, a4⟩, ⟨a5, a6⟩, a7, a8⟩ := h.dr _ (List.getElem_mem hk)
    refine ⟨by rw [h.bell k hk]; exact bell_ok k (by omega), ⟨a1, by omega⟩, ⟨a3, by omega⟩, ⟨by omega, by omega⟩, by omega, by omega⟩
  · rw [h.bell k hk, h.bell (k - 1) (by omega)]
    exact bell_less k (by omega) h0
theorem Drawn.moved_ok {ys : List PlcD} (h : Drawn ys) {k : Nat} (hk : k < ys.length) : PlcsOk (moveAt ys k 7 5 3) := by
  refine moveAt_ok hk h.ok ?_
  obtain ⟨b1, _⟩ := h.ok.ok hk
  obtain ⟨⟨a1, a2⟩, ⟨a3, a4⟩, ⟨a5, a6⟩, a7, a8⟩ := h.dr _ (List.getElem_mem hk)
  unfold moved
  exact ⟨b1, ⟨by simp only; omega, by simp only; omega⟩, ⟨by simp only; omega, by simp only; omega⟩, ⟨by simp only; omega, by simp only; omega⟩, by simp only; omega, by simp only; omega⟩
theorem Drawn.snoc {ys : List PlcD} {x : PlcD} (h : Drawn ys) (hl : ys.length < 5) (hb : x.bell = bells.getD ys.length ⟨#[]⟩) (hd : drawP x) : Drawn (ys ++ [x]) := by
  refine ⟨by simp; omega, fun i hi => ?_, fun y hy => ?_⟩
  · by_cases e : i < ys.length
    · rw [List.getElem_append_left e]; exact h.bell i e
    · simp at hi
      obtain rfl : i = ys.length := by omega
      simp [hb]
  · rcases List.mem_append.1 hy with hy | hy
    · exact h.dr y hy
    · rw [List.mem_singleton.1 hy]; exact hd

def DrawnP (w0 w : World) (p : Nat) (cv : Value) (e : Ending) (w' : World) : Prop := ∃ (ys : List PlcD) (a : Option Addr) (c m : Nat), e = .returned (.slice a ys.length c) ∧ Drawn ys ∧ RdPlcDs w' (.slice a ys.length c) ys ∧ Src w0 w' p cv m ∧ Touch p (p + 1) w w'
set_option maxHeartbeats 2000000 in
theorem l23Draw_any (w0 : World) (p n : Nat) (cv : Value) (bs : List Int) (w : World) (h0 : Byts w0 cv bs) (ok : okByts bs) (h : Src w0 w p cv n) (hn : n ≤ 700000000) :
    Calls Tryd.prog 15 #[.pointer (some ⟨p, 0, none⟩)] w (DrawnP w0 w p cv) := by
  have HS := Lib.hid h
  have hlt := h.lt
  have hlow := h.low
  clear h
  go_enter Tryd.func15, Tryd.ntmps15
  go_wp2_with fail
  have BN := Lib.hid (Box.alloc w [.string ⟨#[97]⟩, .string ⟨#[98]⟩, .string ⟨#[99]⟩, .string ⟨#[100]⟩, .string ⟨#[101]⟩] 9 w.heap.size rfl)
  refine (pick_any w0 p n cv bs 6 _ h0 ok (HS.out.mono (belowA _ _)) (by omega) (by omega) (by omega)).mono ?_
  rintro e w1 ⟨k, m1, rfl, k0, k1, m10, m11, hs1, ht1⟩
  have z1 := ht1.size
  simp at z1
  have BN := Lib.hid ((BN.out.touch ht1 (.inr (by omega))).mono (belowA w1 (.cells #[] 34)))
  have HS1 := Lib.hid (hs1.mono (belowA w1 (.cells #[] 34)))
  have HT1 := Lib.hid ((show Touch p (p + 1) w w1 from ((Touch.refl _ _ _).alloc _).trans ht1).alloc (.cells #[] 34))
  have HR1 := Lib.hid (owns_base (owns_empty w1 34 5 w1.heap.size (Nat.le_refl _)) (show w.heap.size + 1 ≤ w1.heap.size by omega))
  have hzz : w.heap.size + 1 ≤ (w1.alloc (.cells #[] 34)).heap.size := by simp; omega
  clear hs1 ht1
  go_wp2_with fail
  go_loopw [5, 6] (fun ov jv wr => ∃ (ys : List PlcD) (a : Option Addr) (c m : Nat), ov = .slice a ys.length c ∧ jv = .int .i64 (ys.length : Int) ∧ (ys.length : Int) ≤ k ∧ Drawn ys ∧ m ≤ n + 2 + 20 * ys.length ∧ wr.ownsRow (w.heap.size + 1) 34 5 (.slice a ys.length c) ys.length (ys.flatMap PlcD.cells) ∧ Box wr w.heap.size [.string ⟨#[97]⟩, .string ⟨#[98]⟩, .string ⟨#[99]⟩, .string ⟨#[100]⟩, .string ⟨#[101]⟩] ∧ Src w0 wr p cv m ∧ Touch p (p + 1) w wr ∧ w.heap.size + 1 ≤ wr.heap.size) (fun _ jv _ => (k - intOf jv).toNat)
  case atStart => exact ⟨[], _, _, m1, rfl, by go_num, by simp; omega, ⟨by simp, (fun i h => by simp at h), (fun y hy => by cases hy)⟩, by simp; omega, HR1.out, BN.out, HS1.out, HT1.out, hzz⟩
  case round =>
    clear HR1 BN HS1 HT1 hzz
    obtain ⟨ys, a, c, m, rfl, rfl, hyk, hdr, hm, ho, hbn, hs, ht, hz⟩ := hrel
    have HO := Lib.hid ho; have BN := Lib.hid hbn; have HS := Lib.hid hs; have HT := Lib.hid ht; have HD := Lib.hid hdr
    clear ho hbn hs ht hdr
    by_cases hl : (ys.length : Int) < k
    · have hl5 : ys.length < 5 := by omega
      obtain ⟨nm, hnm⟩ : ∃ nm, nm = bells.getD ys.length ⟨#[]⟩ := ⟨_, rfl⟩
      have q0 : wr.cell? ⟨w.heap.size, ys.length, none⟩ = some (.string nm) := by
        refine BN.out.at' _ _ ?_
        have : ∀ i, i < 5 → ([Value.string ⟨#[97]⟩, .string ⟨#[98]⟩, .string ⟨#[99]⟩, .string ⟨#[100]⟩, .string ⟨#[101]⟩] : List Value)[i]? = some (.string (bells.getD i ⟨#[]⟩)) := by
          intro i hi
          match i, hi with
          | 0, _ => rfl
          | 1, _ => rfl
          | 2, _ => rfl
          | 3, _ => rfl
          | 4, _ => rfl
        rw [hnm]; exact this _ hl5
      have lN := BN.out.lt
      have HNM := Lib.hid hnm
      clear hnm
      go_wp2_with fail
      refine (l23DrawOne_any nm w0 p m cv bs _ h0 ok HS.out (by omega)).mono ?_
      rintro e w2 ⟨x, m2, rfl, hxb, hxd, m20, m21, hs, ht⟩
      have hz2 := ht.size
      have BN := Lib.hid (BN.out.touch ht (.inr (by omega)))
      have HO := Lib.hid (owns_touch HO.out ht (by omega))
      have HT := Lib.hid (HT.out.trans ht)
      have HS := Lib.hid hs
      have HXB := Lib.hid hxb
      have HDS := Lib.hid (HD.out.snoc hl5 (by rw [hxb]; exact HNM.out) hxd)
      clear hs ht hxb hxd q0 lN
      go_wp2_with (at_builtin; refine append_one rfl _ _ 24 rfl (w.heap.size + 1) 34 (.agg #[.string ⟨#[]⟩, .int .i64 0, .int .i64 0, .int .i64 0, .int .i64 0]) 5 48 Tryd.underlying24 info_Place rfl (by decide) _ ys.length _ rfl HO.out [.string nm, .int .i64 x.x, .int .i64 x.y, .int .i64 x.z, .int .i64 x.reach] rfl (by simp [Value.oneCell']) rfl (by omega) (by decide) (by omega) ?_)
      intro a7 k7 w7 ho7 hg7 hb7
      have hz7 := hb7.size
      have BN := Lib.hid (BN.out.step hb7 (Nat.lt_succ_self _))
      have HS := Lib.hid (HS.out.step (by omega) hb7)
      have HT := Lib.hid (HT.out.step hb7 (by omega))
      have HO7 := Lib.hid (show w7.ownsRow (w.heap.size + 1) 34 5 (.slice a7 (ys ++ [x]).length k7) (ys ++ [x]).length ((ys ++ [x]).flatMap PlcD.cells) by
        rw [List.length_append, List.flatMap_append]
        have e : [x].flatMap PlcD.cells = [.string nm, .int .i64 x.x, .int .i64 x.y, .int .i64 x.z, .int .i64 x.reach] := by rw [← HXB.out]; rfl
        rw [e]; exact ho7)
      clear ho7 hg7 hb7
      go_wp2
      go_roundw
      case rel => exact ⟨ys ++ [x], a7, k7, m2, by simp, by simp, by simp; omega, HDS.out, by simp; omega, HO7.out, BN.out, HS.out, HT.out, by omega⟩
      case measure => simp [intOf]; omega
    · go_wp2
      go_ret
      exact ⟨ys, a, c, m, rfl, HD.out, Sl.of_owns HO.out, HS.out, HT.out⟩

theorem R8Places_any (w : World) (v0 : Value) (x0 : List Int) (h0 : Byts w v0 x0) (o0 : okByts x0) :
    Calls Tryd.prog 5 #[v0] w fun e w' => ∃ (ys : List PlcD) (a : Option Addr) (c : Nat), e = .returned (.slice a ys.length c) ∧ Drawn ys ∧ RdPlcDs w' (.slice a ys.length c) ys ∧ Below w.heap.size w w' := by
  obtain ⟨a0, ca, rfl, _, _, _⟩ := id h0
  go_enter Tryd.func5, Tryd.ntmps5
  go_wp2_with fail
  refine (l00From_any a0 x0.length ca _).mono ?_
  rintro e w2 ⟨rfl, hs, hz2⟩
  have HB := Lib.hid hs.below
  have HS := Lib.hid hs
  clear hs
  go_wp2_with fail
  refine (l23Draw_any w w.heap.size 0 (.slice a0 x0.length ca) x0 w2 h0 o0 HS.out (by omega)).mono ?_
  rintro e w3 ⟨ys, a, c, m, rfl, hd, hr, _, ht⟩
  go_wp2
  go_ret
  exact ⟨ys, a, c, rfl, hd, hr, ht.below HB.out (Nat.le_refl _) (by omega)⟩

end Go.Proofs.YteaijhmgfddjiaaDoor
