/- The reference's draw of a clavier: actions of bounded size, in memory of their own. Contracts of l24Draw and DrawEvenWeights. -/
import Derived.Test.YtijhlllajddlpaaBend
import Derived.Test.YtijhlllajddlpaaEven
set_option linter.unusedSimpArgs false
set_option linter.unnecessarySimpa false
set_option linter.unusedVariables false
set_option maxRecDepth 100000
namespace Go.Proofs.Ytijhlllajddlpaa
open Go.RowKit

theorem OwnRow.only {B E : Nat} {w w1 : World} {e : TypeId} {size n : Nat} {v : Value} {cs : List Value} {p : Nat} {u : Option Nat} (h : OwnRow B E w e size v n cs) (o : Only p u w w1) (hp : p < B) (hu : v.ownBlock = none ∨ v.ownBlock ≠ u) : OwnRow B E w1 e size v n cs := by
  refine ⟨⟨h.1.1, ?_⟩, h.2⟩
  rcases h.1.2 with h2 | ⟨g, cap, cur, rfl, b, c, d⟩
  · exact .inl h2
  · refine .inr ⟨g, cap, cur, rfl, b, (o.block g (Array.getElem?_eq_some_iff.1 c).1 (by omega) ?_).trans c, d⟩
    rcases hu with hu | hu
    · cases hu
    · exact hu
theorem Touch.only {p : Nat} {u : Option Nat} {w w1 w2 : World} (h : Touch p (p + 1) w w1) (o : Only p u w1 w2) (hu : ∀ q, u = some q → w.heap.size ≤ q) : Touch p (p + 1) w w2 :=
  ⟨o.os.trans h.os, o.tape.trans h.tape, o.output.trans h.output, Nat.le_trans h.size o.size, fun k hk hr => (o.block k (Nat.lt_of_lt_of_le hk h.size) (by omega) (fun e => by have := hu k e.symm; omega)).trans (h.block k hk hr)⟩
theorem ActsSt.touch {B E B' E' : Nat} {w w' : World} {v : Value} {ys : List (Value × ActD)} (h : ActsSt B E w v ys) (t : Touch B' E' w w') (hd : E ≤ B' ∨ E' ≤ B) : ActsSt B E w' v ys :=
  ⟨h.1.touch t hd, fun y hy => (h.2.1 y hy).touch t hd, h.2.2⟩
theorem ActsSt.wide {B E E' : Nat} {w : World} {v : Value} {ys : List (Value × ActD)} (h : ActsSt B E w v ys) (hE : E ≤ E') : ActsSt B E' w v ys :=
  ⟨h.1.wide (Nat.le_refl _) hE, fun y hy => (h.2.1 y hy).wide (Nat.le_refl _) hE, h.2.2⟩
/-- The action at i is changed, its levers perhaps moved, and stored again. -/
theorem ActsSt.swap {B E : Nat} {w w1 : World} {g cap n p i : Nat} {ys : List (Value × ActD)} (hn : n = ys.length) (h : ActsSt B E w (.slice (some ⟨g, 0, none⟩) n cap) ys) (hp : p < B) (hEw : E ≤ w.heap.size) (hi : i < ys.length)
    (ho : Only p ys[i].1.ownBlock w w1) (z : Value × ActD) (hz : w1.ownsRow B 51 2 z.1 z.2.levs.length (z.2.levs.flatMap Lev.cells)) (hat : z.1.ownBlock = ys[i].1.ownBlock ∨ ∀ q, z.1.ownBlock = some q → w.heap.size ≤ q) :
    ActsSt B w1.heap.size ((((w1.setCell ⟨g, i * 4, none⟩ (.int .i64 z.2.note)).setCell ⟨g, i * 4 + 1, none⟩ z.1).setCell ⟨g, i * 4 + 2, none⟩ (.int .i64 z.2.slack)).setCell ⟨g, i * 4 + 3, none⟩ (.int .i64 z.2.weight)) (.slice (some ⟨g, 0, none⟩) n cap) (ys.set i z) ∧
    w1.grownBy ((((w1.setCell ⟨g, i * 4, none⟩ (.int .i64 z.2.note)).setCell ⟨g, i * 4 + 1, none⟩ z.1).setCell ⟨g, i * 4 + 2, none⟩ (.int .i64 z.2.slack)).setCell ⟨g, i * 4 + 3, none⟩ (.int .i64 z.2.weight)) (some g) ∧ B ≤ g ∧ g < E := by
  subst hn
  obtain ⟨h1, h2, h3, h4⟩ := h
  have hal := take_flat_len ys i (by omega)
  have e1 := cut_flat ys i hi
  have hgE := h1.2 g rfl
  have hgB := (h1.1.lt g rfl).1
  have a1 : apart (.slice (some ⟨g, 0, none⟩) ys.length cap) ys[i].1 := h3 _ (List.getElem_mem hi)
  have r1 := (h1.only ho hp a1).1
  rw [e1] at r1
  have hEw1 := ho.size
  have s := stored4 (A := (ys.take i).flatMap actCells) (z0 := .int .i64 ys[i].2.note) (z1 := ys[i].1) (z2 := .int .i64 ys[i].2.slack) (z3 := .int .i64 ys[i].2.weight) (R := (ys.drop (i + 1)).flatMap actCells) r1 hal (.int .i64 z.2.note) z.1 (.int .i64 z.2.slack) (.int .i64 z.2.weight)
  have hset : (ys.set i z).length = ys.length := by simp
  have az : apart (.slice (some ⟨g, 0, none⟩) ys.length cap) z.1 := by
    rcases hat with e | e
    · have : apart (.slice (some ⟨g, 0, none⟩) ys.length cap) ys[i].1 := a1
      unfold apart at this ⊢
      rw [e]; exact this
    · refine .inr fun q => ?_
      have := e g q.symm
      omega
  have ap : ∀ j, (hj : j < ys.length) → j ≠ i → apart ys[j].1 z.1 := fun j hj hne => by
    have aj := pair_apart h4 hj hi hne
    rcases hat with e | e
    · unfold apart at aj ⊢; rw [e]; exact aj
    · cases hb : ys[j].1.ownBlock with
      | none => exact .inl hb
      | some q =>
        refine .inr fun e2 => ?_
        have l1 := (h2 _ (List.getElem_mem hj)).2 q hb
        have l2 := e q (e2.symm.trans hb)
        omega
  refine ⟨⟨⟨?_, fun q hq => ?_⟩, ?_, ?_, ?_⟩, s.2, hgB, hgE⟩
  · rw [hset, set_flat ys i hi]
    simpa [actCells] using s.1
  · have e : g = q := Option.some.inj hq; omega
  · intro y hy
    obtain ⟨j, hj, rfl⟩ := List.getElem_of_mem hy
    rw [hset] at hj
    by_cases e : i = j
    · subst e
      simp only [List.getElem_set_self]
      exact (OwnRow.mk' hz).far s.2 az
    · rw [List.getElem_set_ne e]
      have ij := pair_apart h4 hj hi (fun h => e h.symm)
      exact (((h2 _ (List.getElem_mem hj)).only ho hp ij).far s.2 (h3 _ (List.getElem_mem hj))).wide (Nat.le_refl _) (by omega)
  · intro y hy
    obtain ⟨j, hj, rfl⟩ := List.getElem_of_mem hy
    rw [hset] at hj
    by_cases e : i = j
    · subst e; simpa using az
    · rw [List.getElem_set_ne e]; exact h3 _ (List.getElem_mem hj)
  · rw [List.pairwise_iff_getElem]
    intro a b ha hb hab
    simp only [List.length_map, List.length_set] at ha hb
    simp only [List.getElem_map]
    by_cases ea : i = a
    · subst ea
      rw [List.getElem_set_self, List.getElem_set_ne (by omega)]
      exact (ap b hb (by omega)).symm
    · by_cases eb : i = b
      · subst eb
        rw [List.getElem_set_self, List.getElem_set_ne (by omega)]
        exact ap a ha (by omega)
      · rw [List.getElem_set_ne ea, List.getElem_set_ne eb]
        exact pair_apart h4 ha hb (by omega)

theorem ActsSt.empty (w : World) : ActsSt w.heap.size (w.heap.size + 1) (w.alloc (.cells #[] 30)) (.slice (some ⟨w.heap.size, 0, none⟩) 0 0) [] :=
  ⟨⟨owns_empty w _ 4 _ (Nat.le_refl _), fun q hq => by have e : w.heap.size = q := Option.some.inj hq; omega⟩, (fun y hy => by cases hy), (fun y hy => by cases hy), List.Pairwise.nil⟩
/-- A clavier at hand. -/
structure DSt (w0 w W : World) (p n m c : Nat) (cv v : Value) (ys : List (Value × ActD)) : Prop where
  st : ActsSt w.heap.size W.heap.size W v ys
  sm : ∀ y ∈ ys, smA y.2
  src : Src w0 W p cv m
  tch : Touch p (p + 1) w W
  m0 : n ≤ m
  m1 : m ≤ n + c
def Drawn (w0 w : World) (p n : Nat) (cv : Value) (e : Ending) (w' : World) : Prop :=
  ∃ (v : Value) (xs : List ActD) (m : Nat), e = .returned v ∧ OwnActs w.heap.size w'.heap.size w' v xs ∧ (∀ x ∈ xs, smA x) ∧ xs.length ≤ 49 ∧ n ≤ m ∧ m ≤ n + 300 ∧ Src w0 w' p cv m ∧ Touch p (p + 1) w w'

set_option maxHeartbeats 4000000 in
theorem l24Draw_any (w0 : World) (p n : Nat) (cv : Value) (bs : List Int) (w : World) (h0 : Byts w0 cv bs) (ok : okByts bs) (h : Src w0 w p cv n) (hn : n ≤ 700000000) :
    Calls Try.prog 26 #[.pointer (some ⟨p, 0, none⟩)] w (Drawn w0 w p n cv) := by
  have HS := Lib.hid h
  have hlt := h.lt
  have hlow := h.low
  clear h
  go_enter Try.func26, Try.ntmps26
  go_wp2_with fail
  refine (pick_any w0 p n cv bs 10 _ h0 ok (HS.out.mono (by (repeat (first | with_reducible exact Below.refl _ _ | with_reducible exact hbw | (with_reducible refine Below.setCell ?_ ?_ _; rotate_left; · first | exact Nat.le_refl _ | omega | (simp; done) | (simp; omega)) | (with_reducible refine Below.alloc ?_ ?_ _; rotate_left; · first | exact Nat.le_refl _ | omega | (simp; done) | (simp; omega)) | with_reducible refine below_drewN ?_ _ | with_reducible refine Below.drew ?_)))) (by omega) (by omega) (by omega)).mono ?_
  rintro e w1 ⟨r1, m1, rfl, r10, r11, m10, m11, hs1, ht1⟩
  have wn : IntKind.i64.wrap (48 + r1) = 48 + r1 := IntWalk.i64_in _ (by omega)
  have hz1 := ht1.size
  simp at hz1
  have HD1 := Lib.hid (show DSt w0 w w1 p n m1 2 cv (.slice (some ⟨w.heap.size, 0, none⟩) 0 0) [] from
    ⟨((ActsSt.empty w).touch ht1 (.inr (by omega))).wide (by omega), (fun y hy => by cases hy), hs1, ((Touch.refl _ _ w).alloc _).trans ht1, by omega, by omega⟩)
  clear hs1 ht1 HS
  go_wp2_with fail
  refine (pick_any w0 p m1 cv bs 6 w1 h0 ok HD1.out.src (by omega) (by omega) (by omega)).mono ?_
  rintro e w2 ⟨kk, m2, rfl, kk0, kk1, m20, m21, hs2, ht2⟩
  have hz2 := ht2.size
  have HD2 := Lib.hid (show DSt w0 w w2 p n m2 4 cv (.slice (some ⟨w.heap.size, 0, none⟩) 0 0) [] from ⟨(HD1.out.st.touch ht2 (.inr (by omega))).wide hz2, (fun y hy => by cases hy), hs2, HD1.out.tch.trans ht2, by omega, by omega⟩)
  clear hs2 ht2 HD1
  go_wp2_with fail
  go_loopw [3, 4, 5, 6] (fun u nt k _ wr => ∃ (j m : Nat) (kv nv : Int) (ys : List (Value × ActD)) (a' : Option Addr) (c' : Nat), u = .slice a' j c' ∧ nt = .int .i64 nv ∧ k = .int .i64 kv ∧ 0 ≤ kv ∧ (j : Int) + kv ≤ 5 ∧ 0 ≤ nv ∧ nv ≤ 60 + 4 * j ∧ ys.length = j ∧ (∀ y ∈ ys, y.2.levs.length ≤ 3) ∧ DSt w0 w wr p n m (4 + 32 * j) cv (.slice a' j c') ys) (fun _ _ k _ _ => (intOf k).toNat)
  case atStart => exact ⟨0, m2, kk, 48 + r1, [], _, _, rfl, rfl, rfl, kk0, by omega, by omega, by omega, rfl, (fun y hy => by cases hy), HD2.out⟩
  case round =>
    clear HD2
    obtain ⟨j, m, kv, nv, ys, a, c, rfl, rfl, rfl, kv0, kv1, nv0, nv1, hyl, hl3s, hd⟩ := hrel
    have HYL := Lib.hid hyl; have HD := Lib.hid hd; have HLL := Lib.hid hl3s
    have hmm := hd.m1
    have hmn := hd.m0
    have hzr := hd.tch.size
    clear hyl hd hl3s
    by_cases hk : 0 < kv
    · have dk : decide (0 < kv) = true := by simpa using hk
      go_wp2_with fail
      refine (l24DrawOne_any w0 p m cv bs wr h0 ok HD.out.src (by omega)).mono ?_
      rintro e w3 ⟨v', x, m3, rfl, hown, hsm, hl3, m30, m31, hs3, ht3⟩
      obtain ⟨a3, c3, rfl⟩ := hown.form
      have hz3 := ht3.size
      obtain ⟨q, hq⟩ : ∃ q, q = w3.heap.size := ⟨_, rfl⟩
      have HX := Lib.hid hown.row; have HSM := Lib.hid hsm; have HL3 := Lib.hid hl3; have HS3 := Lib.hid hs3; have HT3 := Lib.hid ht3
      clear hown hsm hl3 hs3 ht3
      go_wp2_with fail
      have BX := Box.alloc w3 [.int .i64 nv, .slice a3 x.levs.length c3, .int .i64 x.slack, .int .i64 x.weight] 30 q hq.symm
      refine (pick_any w0 p m3 cv bs 4 _ h0 ok (HS3.out.mono (belowA _ _)) (by omega) (by omega) (by omega)).mono ?_
      rintro e w5 ⟨rr, m5, rfl, rr0, rr1, m50, m51, hs5, ht5⟩
      have wr1 : IntKind.i64.wrap (rr + 1) = rr + 1 := IntWalk.i64_in _ (by omega)
      have wr2 : IntKind.i64.wrap (nv + (rr + 1)) = nv + (rr + 1) := IntWalk.i64_in _ (by omega)
      have wk1 : IntKind.i64.wrap (kv - 1) = kv - 1 := IntWalk.i64_in _ (by omega)
      have hz5 := ht5.size
      simp at hz5
      have bx := BX.touch ht5 (.inr (by omega))
      have c0 := bx.at' 0 _ rfl
      have c1 := bx.at' 1 _ rfl
      have c2 := bx.at' 2 _ rfl
      have c3' := bx.at' 3 _ rfl
      have hq5 := bx.lt
      have HX5 := Lib.hid ((HX.out.mono (belowA _ _)).touch ht5 (.inr (by omega)))
      have HT5 := Lib.hid ((HT3.out.alloc (.cells #[.int .i64 nv, .slice a3 x.levs.length c3, .int .i64 x.slack, .int .i64 x.weight] 30)).trans ht5)
      have HA5 := Lib.hid (HD.out.st.touch HT5.out (.inr (by omega)))
      have HS5 := Lib.hid hs5
      have HYO := Lib.hid (show w5.ownsRow w.heap.size 30 4 (.slice a j c) j (ys.flatMap actCells) from by have := HA5.out.1.1; rwa [HYL.out] at this)
      rw [hq] at c0 c1 c2 c3' hq5
      clear hs5 ht5 bx BX HX HT3 HS3
      go_wp2_with (at_builtin; refine append_one_at rfl _ _ 36 rfl w.heap.size 30 _ 4 48 Try.underlying36 info_Action rfl (by decide) _ j _ rfl HYO.out [.int .i64 nv, .slice a3 x.levs.length c3, .int .i64 x.slack, .int .i64 x.weight] rfl (by intro u hu; simp at hu; rcases hu with rfl | rfl | rfl | rfl <;> rfl) w5.heap.size rfl rfl (by omega) (by decide) (by omega) ?_)
      intro a7 c7 w7 ho7 hg7 hb7 hat7
      have hz7 : w5.heap.size ≤ w7.heap.size := hg7.size
      have e7 : actCells (.slice a3 x.levs.length c3, (⟨nv, x.levs, x.slack, x.weight⟩ : ActD)) = [.int .i64 nv, .slice a3 x.levs.length c3, .int .i64 x.slack, .int .i64 x.weight] := rfl
      have HN := Lib.hid (show DSt w0 w w7 p n m5 (4 + 32 * (j + 1)) cv (.slice a7 (j + 1) c7) (ys ++ [(.slice a3 x.levs.length c3, ⟨nv, x.levs, x.slack, x.weight⟩)]) from by
        refine ⟨ActsSt.snoc (w1 := w5) (E := wr.heap.size) (L := wr.heap.size) (F := w3.heap.size) HA5.out (Nat.le_refl _) hz3 (by omega) (Below.refl _ _) (by omega) HX5.out hg7 (by rw [HYL.out]; exact ho7) ?_, fun y hy => ?_, HS5.out.step (B := w.heap.size) hlt hb7, ?_, by omega, by omega⟩
        · rcases hat7 with h | h
          · exact .inl h
          · exact .inr ⟨_, h, by omega⟩
        · rcases List.mem_append.1 hy with hy | hy
          · exact HD.out.sm y hy
          · rw [List.mem_singleton.1 hy]; have s := HSM.out; exact ⟨by simp only; unfold smN; omega, s.slack, s.weight, s.levs, s.len⟩
        · exact (HD.out.tch.trans HT5.out).step hb7 (Nat.le_refl _))
      clear ho7 hg7 hb7 hat7 HX5 HA5 HS5 HYO HT5 e7
      go_wp2
      go_roundw
      case rel => exact ⟨j + 1, m5, kv - 1, nv + (rr + 1), _, a7, c7, rfl, rfl, rfl, by omega, by omega, by omega, by omega, by simp [HYL.out], (fun y hy => by
        rcases List.mem_append.1 hy with hy | hy
        · exact HLL.out y hy
        · rw [List.mem_singleton.1 hy]; exact HL3.out), HN.out⟩
      case measure => simp [intOf]; omega
    · have dk : decide (0 < kv) = false := by simpa using hk
      have hj5 : j ≤ 5 := by omega
      by_cases hj0 : j = 0
      · have dj : decide (0 < (j : Int)) = false := by simp; omega
        have dj' : decide (0 < j) = false := by simp; omega
        clear hj0
        go_wp2_with fail
        clear dk dj dj'
        have hmz := HD.out.m0
        have hmy := HD.out.m1
        refine (one_any w0 p m cv bs 24 wr h0 ok HD.out.src (by omega) (by omega) (by omega)).mono ?_
        rintro e wA ⟨b, mA, rfl, mA0, mA1, hsA, htA⟩
        have hzA := htA.size
        have HDA := Lib.hid (show DSt w0 w wA p n mA 182 cv _ _ from ⟨(HD.out.st.touch htA (.inr (by omega))).wide hzA, HD.out.sm, hsA, HD.out.tch.trans htA, by omega, by omega⟩)
        clear hsA htA HD
        cases b
        · go_wp2
          go_ret
          exact ⟨_, _, mA, rfl, OwnActs.st.2 ⟨_, rfl, HDA.out.st⟩, fun x hx => by obtain ⟨y, hy, rfl⟩ := List.mem_map.1 hx; exact HDA.out.sm y hy, by rw [List.length_map]; have := HYL.out; first | omega | (rw [List.length_set]; omega), by omega, by omega, HDA.out.src, HDA.out.tch⟩
        · go_wp2_with fail
          refine (among_lit w0 p mA cv bs [48, 49] 2 wA.heap.size wA h0 ok HDA.out.src (by omega) rfl rfl (by simp) (by simp)).mono ?_
          rintro e wB ⟨mv, mB, rfl, hmv, mB0, mB1, hsB, htB⟩
          have m49 : mv = 48 ∨ mv = 49 := by simpa using hmv
          have hzB := htB.size
          have HTB := Lib.hid (HDA.out.tch.trans htB)
          have HSB := Lib.hid hsB
          have hBw : w.heap.size ≤ wB.heap.size := by have := HTB.out.size; omega
          clear hmv htB hsB HDA
          go_wp2_with fail
          go_loopw [3, 9] (fun u k wL => ∃ (j2 : Nat) (zs : List (Value × ActD)) (a2 : Option Addr) (c2 : Nat), u = .slice a2 j2 c2 ∧ k = .int .i64 (j2 : Int) ∧ (j2 : Int) ≤ mv ∧ zs.length = j2 ∧ (∀ y ∈ zs, smA y.2) ∧ ActsSt wB.heap.size wL.heap.size wL (.slice a2 j2 c2) zs ∧ Below wB.heap.size wB wL) (fun _ k _ => (mv - intOf k).toNat)
          case atStart => exact ⟨0, [], _, _, rfl, by go_num, by omega, rfl, (fun y hy => by cases hy), by simpa using ActsSt.empty wB, belowA _ _⟩
          case round =>
            obtain ⟨j2, zs, a2, c2, rfl, rfl, hj2, hzl, hzs, hst2, hb2⟩ := hrel
            have HZL := Lib.hid hzl; have HZS := Lib.hid hzs; have HST := Lib.hid hst2; have HB2 := Lib.hid hb2
            have hz2' := hb2.size
            clear hzl hzs hst2 hb2
            by_cases hlt2 : (j2 : Int) < mv
            · have d2 : decide ((j2 : Int) < mv) = true := by simpa using hlt2
              have w5' : IntKind.i64.wrap (5 * (j2 : Int)) = 5 * (j2 : Int) := IntWalk.i64_in _ (by omega)
              have HYO := Lib.hid (show wr.ownsRow wB.heap.size 30 4 (.slice a2 j2 c2) j2 (zs.flatMap actCells) from by have := HST.out.1.1; rwa [HZL.out] at this)
              have HCN := Lib.hid (show ∀ u ∈ ([.int .i64 (j2 : Int), .slice none 0 0, .int .i64 0, .int .i64 (5 * (j2 : Int))] : List Value), u.oneCell' = true from by intro u hu; simp at hu; rcases hu with rfl | rfl | rfl | rfl <;> rfl)
              go_wp2_with (at_builtin; refine append_one_at rfl _ _ 36 rfl wB.heap.size 30 _ 4 48 Try.underlying36 info_Action rfl (by decide) _ j2 _ rfl HYO.out [.int .i64 (j2 : Int), .slice none 0 0, .int .i64 0, .int .i64 (5 * (j2 : Int))] rfl HCN.out wr.heap.size rfl rfl (by omega) (by decide) (by omega) ?_)
              intro a7 c7 w7 ho7 hg7 hb7 hat7
              have HN := Lib.hid (show ActsSt wB.heap.size w7.heap.size w7 (.slice a7 (j2 + 1) c7) (zs ++ [(.slice none 0 0, ⟨(j2 : Int), [], 0, 5 * (j2 : Int)⟩)]) from
                ActsSt.snoc (w1 := wr) (E := wr.heap.size) (L := wr.heap.size) (F := wr.heap.size) HST.out (Nat.le_refl _) (Nat.le_refl _) hz2' (Below.refl _ _) (Nat.le_refl _) ⟨by simpa using owns_nil wr 51 2 wr.heap.size, fun q hq => by cases hq⟩ hg7 (by rw [HZL.out]; exact ho7) (by
                  rcases hat7 with h | h
                  · exact .inl h
                  · exact .inr ⟨_, h, by omega⟩))
              have HB7 := Lib.hid (HB2.out.trans hb7)
              clear ho7 hg7 hb7 hat7 HYO HST HCN
              go_wp2
              go_roundw
              case rel => exact ⟨j2 + 1, _, a7, c7, rfl, by go_num, by omega, by simp [HZL.out], (fun y hy => by
                rcases List.mem_append.1 hy with hy | hy
                · exact HZS.out y hy
                · rw [List.mem_singleton.1 hy]; exact ⟨by simp only; unfold smN; omega, by simp [smN], by simp only; unfold smN; omega, (fun l hl => by cases hl), by simp⟩), HN.out, HB7.out⟩
              case measure => simp [intOf] <;> omega
            · have d2 : decide ((j2 : Int) < mv) = false := by simpa using hlt2
              go_wp2
              go_ret
              exact ⟨_, _, mB, rfl, (OwnActs.st.2 ⟨_, rfl, HST.out⟩ : OwnActs wB.heap.size wr.heap.size wr _ _).wide hBw (Nat.le_refl _), fun x hx => by obtain ⟨y, hy, rfl⟩ := List.mem_map.1 hx; exact HZS.out y hy, by rw [List.length_map]; have := HZL.out; omega, by omega, by omega, HSB.out.mono HB2.out, HTB.out.step HB2.out hBw⟩
      · have hj1 : 0 < j := by omega
        have dj : decide (0 < (j : Int)) = true := by simpa using hj1
        have dj' : decide (0 < j) = true := by simpa using hj1
        go_wp2_with fail
        refine (one_any w0 p m cv bs 10 wr h0 ok HD.out.src (by omega) (by omega) (by omega)).mono ?_
        rintro e w3 ⟨b, m3, rfl, m30, m31, hs3, ht3⟩
        have hz3 := ht3.size
        have HD3 := Lib.hid (show DSt w0 w w3 p n m3 166 cv (.slice a j c) ys from ⟨(HD.out.st.touch ht3 (.inr (by omega))).wide hz3, HD.out.sm, hs3, HD.out.tch.trans ht3, by omega, by omega⟩)
        clear hs3 ht3 HD
        cases b
        · go_wp2_with fail
          clear dk dj dj'
          have hmz := HD3.out.m0
          have hmy := HD3.out.m1
          refine (one_any w0 p m3 cv bs 24 w3 h0 ok HD3.out.src (by omega) (by omega) (by omega)).mono ?_
          rintro e wA ⟨b, mA, rfl, mA0, mA1, hsA, htA⟩
          have hzA := htA.size
          have HDA := Lib.hid (show DSt w0 w wA p n mA 182 cv _ _ from ⟨(HD3.out.st.touch htA (.inr (by omega))).wide hzA, HD3.out.sm, hsA, HD3.out.tch.trans htA, by omega, by omega⟩)
          clear hsA htA HD3
          cases b
          · go_wp2
            go_ret
            exact ⟨_, _, mA, rfl, OwnActs.st.2 ⟨_, rfl, HDA.out.st⟩, fun x hx => by obtain ⟨y, hy, rfl⟩ := List.mem_map.1 hx; exact HDA.out.sm y hy, by rw [List.length_map]; have := HYL.out; first | omega | (rw [List.length_set]; omega), by omega, by omega, HDA.out.src, HDA.out.tch⟩
          · go_wp2_with fail
            refine (among_lit w0 p mA cv bs [48, 49] 2 wA.heap.size wA h0 ok HDA.out.src (by omega) rfl rfl (by simp) (by simp)).mono ?_
            rintro e wB ⟨mv, mB, rfl, hmv, mB0, mB1, hsB, htB⟩
            have m49 : mv = 48 ∨ mv = 49 := by simpa using hmv
            have hzB := htB.size
            have HTB := Lib.hid (HDA.out.tch.trans htB)
            have HSB := Lib.hid hsB
            have hBw : w.heap.size ≤ wB.heap.size := by have := HTB.out.size; omega
            clear hmv htB hsB HDA
            go_wp2_with fail
            go_loopw [3, 9] (fun u k wL => ∃ (j2 : Nat) (zs : List (Value × ActD)) (a2 : Option Addr) (c2 : Nat), u = .slice a2 j2 c2 ∧ k = .int .i64 (j2 : Int) ∧ (j2 : Int) ≤ mv ∧ zs.length = j2 ∧ (∀ y ∈ zs, smA y.2) ∧ ActsSt wB.heap.size wL.heap.size wL (.slice a2 j2 c2) zs ∧ Below wB.heap.size wB wL) (fun _ k _ => (mv - intOf k).toNat)
            case atStart => exact ⟨0, [], _, _, rfl, by go_num, by omega, rfl, (fun y hy => by cases hy), by simpa using ActsSt.empty wB, belowA _ _⟩
            case round =>
              obtain ⟨j2, zs, a2, c2, rfl, rfl, hj2, hzl, hzs, hst2, hb2⟩ := hrel
              have HZL := Lib.hid hzl; have HZS := Lib.hid hzs; have HST := Lib.hid hst2; have HB2 := Lib.hid hb2
              have hz2' := hb2.size
              clear hzl hzs hst2 hb2
              by_cases hlt2 : (j2 : Int) < mv
              · have d2 : decide ((j2 : Int) < mv) = true := by simpa using hlt2
                have w5' : IntKind.i64.wrap (5 * (j2 : Int)) = 5 * (j2 : Int) := IntWalk.i64_in _ (by omega)
                have HYO := Lib.hid (show wr.ownsRow wB.heap.size 30 4 (.slice a2 j2 c2) j2 (zs.flatMap actCells) from by have := HST.out.1.1; rwa [HZL.out] at this)
                have HCN := Lib.hid (show ∀ u ∈ ([.int .i64 (j2 : Int), .slice none 0 0, .int .i64 0, .int .i64 (5 * (j2 : Int))] : List Value), u.oneCell' = true from by intro u hu; simp at hu; rcases hu with rfl | rfl | rfl | rfl <;> rfl)
                go_wp2_with (at_builtin; refine append_one_at rfl _ _ 36 rfl wB.heap.size 30 _ 4 48 Try.underlying36 info_Action rfl (by decide) _ j2 _ rfl HYO.out [.int .i64 (j2 : Int), .slice none 0 0, .int .i64 0, .int .i64 (5 * (j2 : Int))] rfl HCN.out wr.heap.size rfl rfl (by omega) (by decide) (by omega) ?_)
                intro a7 c7 w7 ho7 hg7 hb7 hat7
                have HN := Lib.hid (show ActsSt wB.heap.size w7.heap.size w7 (.slice a7 (j2 + 1) c7) (zs ++ [(.slice none 0 0, ⟨(j2 : Int), [], 0, 5 * (j2 : Int)⟩)]) from
                  ActsSt.snoc (w1 := wr) (E := wr.heap.size) (L := wr.heap.size) (F := wr.heap.size) HST.out (Nat.le_refl _) (Nat.le_refl _) hz2' (Below.refl _ _) (Nat.le_refl _) ⟨by simpa using owns_nil wr 51 2 wr.heap.size, fun q hq => by cases hq⟩ hg7 (by rw [HZL.out]; exact ho7) (by
                    rcases hat7 with h | h
                    · exact .inl h
                    · exact .inr ⟨_, h, by omega⟩))
                have HB7 := Lib.hid (HB2.out.trans hb7)
                clear ho7 hg7 hb7 hat7 HYO HST HCN
                go_wp2
                go_roundw
                case rel => exact ⟨j2 + 1, _, a7, c7, rfl, by go_num, by omega, by simp [HZL.out], (fun y hy => by
                  rcases List.mem_append.1 hy with hy | hy
                  · exact HZS.out y hy
                  · rw [List.mem_singleton.1 hy]; exact ⟨by simp only; unfold smN; omega, by simp [smN], by simp only; unfold smN; omega, (fun l hl => by cases hl), by simp⟩), HN.out, HB7.out⟩
                case measure => simp [intOf] <;> omega
              · have d2 : decide ((j2 : Int) < mv) = false := by simpa using hlt2
                go_wp2
                go_ret
                exact ⟨_, _, mB, rfl, (OwnActs.st.2 ⟨_, rfl, HST.out⟩ : OwnActs wB.heap.size wr.heap.size wr _ _).wide hBw (Nat.le_refl _), fun x hx => by obtain ⟨y, hy, rfl⟩ := List.mem_map.1 hx; exact HZS.out y hy, by rw [List.length_map]; have := HZL.out; omega, by omega, by omega, HSB.out.mono HB2.out, HTB.out.step HB2.out hBw⟩
        · go_wp2_with fail
          refine (pick_any w0 p m3 cv bs j w3 h0 ok HD3.out.src (by omega) (by omega) (by omega)).mono ?_
          rintro e w4 ⟨r, m4, rfl, r0, r1, m40, m41, hs4, ht4⟩
          obtain ⟨i, rfl⟩ : ∃ i : Nat, r = (i : Int) := ⟨r.toNat, by omega⟩
          have hz4 := ht4.size
          have HD4 := Lib.hid (show DSt w0 w w4 p n m4 168 cv (.slice a j c) ys from ⟨(HD3.out.st.touch ht4 (.inr (by omega))).wide hz4, HD3.out.sm, hs4, HD3.out.tch.trans ht4, by omega, by omega⟩)
          clear hs4 ht4 HD3
          have hi : i < ys.length := by rw [HYL.out]; omega
          obtain ⟨g, rfl⟩ : ∃ g, a = some ⟨g, 0, none⟩ := by
            rcases HD4.out.st.1.1.2 with ⟨e, e2⟩ | ⟨g, cap, cur, e, _⟩
            · rw [HYL.out] at e2; omega
            · cases e; exact ⟨g, rfl⟩
          have row := HD4.out.st.1.1
          have e1 := cut_flat ys i hi
          have hal := take_flat_len ys i (by omega)
          rw [HYL.out, e1] at row
          have d0 : w4.cell? ⟨g, i * 4, none⟩ = some (.int .i64 ys[i].2.note) := by rw [row.cellAt _ (by omega), List.getElem?_append_right (by omega), hal]; simp [actCells]
          have d1 : w4.cell? ⟨g, i * 4 + 1, none⟩ = some ys[i].1 := by rw [row.cellAt _ (by omega), List.getElem?_append_right (by omega), hal]; simp [actCells]
          have d2 : w4.cell? ⟨g, i * 4 + 2, none⟩ = some (.int .i64 ys[i].2.slack) := by rw [row.cellAt _ (by omega), List.getElem?_append_right (by omega), hal]; simp [actCells]
          have d3 : w4.cell? ⟨g, i * 4 + 3, none⟩ = some (.int .i64 ys[i].2.weight) := by rw [row.cellAt _ (by omega), List.getElem?_append_right (by omega), hal]; simp [actCells]
          have hlv := HD4.out.st.2.1 _ (List.getElem_mem hi)
          obtain ⟨al, cl, el⟩ := hlv.form
          rw [el] at d1
          have HLV := Lib.hid hlv; have HEL := Lib.hid el; have HE1 := Lib.hid e1
          have hpw : p < w.heap.size := hlt
          have hz4w := HD4.out.tch.size
          clear hlv el e1 hal row
          go_wp2_with fail
          refine (l24Bend_any w0 p m4 w.heap.size cv bs w4 ys[i].2 al cl h0 ok HD4.out.src (by omega) (by have := HLV.out.1; rwa [HEL.out] at this) hpw (by omega) (HD4.out.sm _ (List.getElem_mem hi)) (by have := HLL.out _ (List.getElem_mem hi); omega)).mono ?_
          rintro e w5 ⟨z, a5, c5, m5, rfl, zsm, m50, m51, hs5, hon5, hrow5, hat5⟩
          rw [← HEL.out] at hon5 hat5
          have hst4 := HD4.out.st
          obtain ⟨hsw, hgr, hgB, hgE⟩ := ActsSt.swap (n := j) HYL.out.symm hst4 hpw (Nat.le_refl _) hi hon5 (.slice a5 z.levs.length c5, z) hrow5 hat5
          have hz5 := hon5.size
          have row5 := (OwnRow.only hst4.1 hon5 hpw (hst4.2.2.1 _ (List.getElem_mem hi))).1
          rw [HYL.out, HE1.out] at row5
          have hal := take_flat_len ys i (by omega)
          have k0 : w5.cell? ⟨g, i * 4, none⟩ = some (.int .i64 ys[i].2.note) := by rw [row5.cellAt _ (by omega), List.getElem?_append_right (by omega), hal]; simp [actCells]
          have k1 : w5.cell? ⟨g, i * 4 + 1, none⟩ = some ys[i].1 := by rw [row5.cellAt _ (by omega), List.getElem?_append_right (by omega), hal]; simp [actCells]
          have k2 : w5.cell? ⟨g, i * 4 + 2, none⟩ = some (.int .i64 ys[i].2.slack) := by rw [row5.cellAt _ (by omega), List.getElem?_append_right (by omega), hal]; simp [actCells]
          have k3 : w5.cell? ⟨g, i * 4 + 3, none⟩ = some (.int .i64 ys[i].2.weight) := by rw [row5.cellAt _ (by omega), List.getElem?_append_right (by omega), hal]; simp [actCells]
          have fz0 := row5.frozenAt (i * 4)
          have fz1 := row5.frozenAt (i * 4 + 1)
          have fz2 := row5.frozenAt (i * 4 + 2)
          have fz3 := row5.frozenAt (i * 4 + 3)
          have glt : g < w5.heap.size := by omega
          have HR5 := Lib.hid hrow5; have HS5 := Lib.hid hs5; have HO5 := Lib.hid hon5; have HSW := Lib.hid hsw; have HG5 := Lib.hid hgr; have HZ := Lib.hid zsm
          clear hal row5 d0 d1 d2 d3 hs5 hon5 hrow5 hat5 hst4 hsw hgr zsm
          unfold lv2
          go_wp2_with fail
          have hset : (ys.set i (.slice a5 z.levs.length c5, z)).length = j := by rw [List.length_set]; exact HYL.out
          have HD6 := Lib.hid (show DSt w0 w ((((w5.setCell ⟨g, i * 4, none⟩ (.int .i64 z.note)).setCell ⟨g, i * 4 + 1, none⟩ (.slice a5 z.levs.length c5)).setCell ⟨g, i * 4 + 2, none⟩ (.int .i64 z.slack)).setCell ⟨g, i * 4 + 3, none⟩ (.int .i64 z.weight)) p n m5 178 cv (.slice (some ⟨g, 0, none⟩) j c) (ys.set i (.slice a5 z.levs.length c5, z)) from by
            have t : Touch g (g + 1) w5 ((((w5.setCell ⟨g, i * 4, none⟩ (.int .i64 z.note)).setCell ⟨g, i * 4 + 1, none⟩ (.slice a5 z.levs.length c5)).setCell ⟨g, i * 4 + 2, none⟩ (.int .i64 z.slack)).setCell ⟨g, i * 4 + 3, none⟩ (.int .i64 z.weight)) :=
              Touch.of_grown HG5.out fun q hq => by have e : g = q := Option.some.inj hq; omega
            refine ⟨by simpa [World.setCell] using HSW.out, fun y hy => ?_, HS5.out.touch t (.inl (by omega)) (by omega), ?_, by omega, by omega⟩
            · rcases List.mem_or_eq_of_mem_set hy with hy | rfl
              · exact HD4.out.sm y hy
              · exact HZ.out
            · have t5 : Touch p (p + 1) w w5 := HD4.out.tch.only HO5.out fun q hq => (HLV.out.1.lt q hq).1
              exact (((t5.setNew (p := ⟨g, i * 4, none⟩) hgB _).setNew (p := ⟨g, i * 4 + 1, none⟩) hgB _).setNew (p := ⟨g, i * 4 + 2, none⟩) hgB _).setNew (p := ⟨g, i * 4 + 3, none⟩) hgB _)
          clear HSW HG5 HO5 HR5 HS5 k0 k1 k2 k3 fz0 fz1 fz2 fz3
          generalize ((((w5.setCell ⟨g, i * 4, none⟩ (.int .i64 z.note)).setCell ⟨g, i * 4 + 1, none⟩ (.slice a5 z.levs.length c5)).setCell ⟨g, i * 4 + 2, none⟩ (.int .i64 z.slack)).setCell ⟨g, i * 4 + 3, none⟩ (.int .i64 z.weight)) = w6 at HD6 ⊢
          clear dk dj dj'
          have hmz := HD6.out.m0
          have hmy := HD6.out.m1
          refine (one_any w0 p m5 cv bs 24 w6 h0 ok HD6.out.src (by omega) (by omega) (by omega)).mono ?_
          rintro e wA ⟨b, mA, rfl, mA0, mA1, hsA, htA⟩
          have hzA := htA.size
          have HDA := Lib.hid (show DSt w0 w wA p n mA 182 cv _ _ from ⟨(HD6.out.st.touch htA (.inr (by omega))).wide hzA, HD6.out.sm, hsA, HD6.out.tch.trans htA, by omega, by omega⟩)
          clear hsA htA HD6
          cases b
          · go_wp2
            go_ret
            exact ⟨_, _, mA, rfl, OwnActs.st.2 ⟨_, rfl, HDA.out.st⟩, fun x hx => by obtain ⟨y, hy, rfl⟩ := List.mem_map.1 hx; exact HDA.out.sm y hy, by rw [List.length_map]; have := HYL.out; first | omega | (rw [List.length_set]; omega), by omega, by omega, HDA.out.src, HDA.out.tch⟩
          · go_wp2_with fail
            refine (among_lit w0 p mA cv bs [48, 49] 2 wA.heap.size wA h0 ok HDA.out.src (by omega) rfl rfl (by simp) (by simp)).mono ?_
            rintro e wB ⟨mv, mB, rfl, hmv, mB0, mB1, hsB, htB⟩
            have m49 : mv = 48 ∨ mv = 49 := by simpa using hmv
            have hzB := htB.size
            have HTB := Lib.hid (HDA.out.tch.trans htB)
            have HSB := Lib.hid hsB
            have hBw : w.heap.size ≤ wB.heap.size := by have := HTB.out.size; omega
            clear hmv htB hsB HDA
            go_wp2_with fail
            go_loopw [3, 9] (fun u k wL => ∃ (j2 : Nat) (zs : List (Value × ActD)) (a2 : Option Addr) (c2 : Nat), u = .slice a2 j2 c2 ∧ k = .int .i64 (j2 : Int) ∧ (j2 : Int) ≤ mv ∧ zs.length = j2 ∧ (∀ y ∈ zs, smA y.2) ∧ ActsSt wB.heap.size wL.heap.size wL (.slice a2 j2 c2) zs ∧ Below wB.heap.size wB wL) (fun _ k _ => (mv - intOf k).toNat)
            case atStart => exact ⟨0, [], _, _, rfl, by go_num, by omega, rfl, (fun y hy => by cases hy), by simpa using ActsSt.empty wB, belowA _ _⟩
            case round =>
              obtain ⟨j2, zs, a2, c2, rfl, rfl, hj2, hzl, hzs, hst2, hb2⟩ := hrel
              have HZL := Lib.hid hzl; have HZS := Lib.hid hzs; have HST := Lib.hid hst2; have HB2 := Lib.hid hb2
              have hz2' := hb2.size
              clear hzl hzs hst2 hb2
              by_cases hlt2 : (j2 : Int) < mv
              · have d2 : decide ((j2 : Int) < mv) = true := by simpa using hlt2
                have w5' : IntKind.i64.wrap (5 * (j2 : Int)) = 5 * (j2 : Int) := IntWalk.i64_in _ (by omega)
                have HYO := Lib.hid (show wr.ownsRow wB.heap.size 30 4 (.slice a2 j2 c2) j2 (zs.flatMap actCells) from by have := HST.out.1.1; rwa [HZL.out] at this)
                have HCN := Lib.hid (show ∀ u ∈ ([.int .i64 (j2 : Int), .slice none 0 0, .int .i64 0, .int .i64 (5 * (j2 : Int))] : List Value), u.oneCell' = true from by intro u hu; simp at hu; rcases hu with rfl | rfl | rfl | rfl <;> rfl)
                go_wp2_with (at_builtin; refine append_one_at rfl _ _ 36 rfl wB.heap.size 30 _ 4 48 Try.underlying36 info_Action rfl (by decide) _ j2 _ rfl HYO.out [.int .i64 (j2 : Int), .slice none 0 0, .int .i64 0, .int .i64 (5 * (j2 : Int))] rfl HCN.out wr.heap.size rfl rfl (by omega) (by decide) (by omega) ?_)
                intro a7 c7 w7 ho7 hg7 hb7 hat7
                have HN := Lib.hid (show ActsSt wB.heap.size w7.heap.size w7 (.slice a7 (j2 + 1) c7) (zs ++ [(.slice none 0 0, ⟨(j2 : Int), [], 0, 5 * (j2 : Int)⟩)]) from
                  ActsSt.snoc (w1 := wr) (E := wr.heap.size) (L := wr.heap.size) (F := wr.heap.size) HST.out (Nat.le_refl _) (Nat.le_refl _) hz2' (Below.refl _ _) (Nat.le_refl _) ⟨by simpa using owns_nil wr 51 2 wr.heap.size, fun q hq => by cases hq⟩ hg7 (by rw [HZL.out]; exact ho7) (by
                    rcases hat7 with h | h
                    · exact .inl h
                    · exact .inr ⟨_, h, by omega⟩))
                have HB7 := Lib.hid (HB2.out.trans hb7)
                clear ho7 hg7 hb7 hat7 HYO HST HCN
                go_wp2
                go_roundw
                case rel => exact ⟨j2 + 1, _, a7, c7, rfl, by go_num, by omega, by simp [HZL.out], (fun y hy => by
                  rcases List.mem_append.1 hy with hy | hy
                  · exact HZS.out y hy
                  · rw [List.mem_singleton.1 hy]; exact ⟨by simp only; unfold smN; omega, by simp [smN], by simp only; unfold smN; omega, (fun l hl => by cases hl), by simp⟩), HN.out, HB7.out⟩
                case measure => simp [intOf] <;> omega
              · have d2 : decide ((j2 : Int) < mv) = false := by simpa using hlt2
                go_wp2
                go_ret
                exact ⟨_, _, mB, rfl, (OwnActs.st.2 ⟨_, rfl, HST.out⟩ : OwnActs wB.heap.size wr.heap.size wr _ _).wide hBw (Nat.le_refl _), fun x hx => by obtain ⟨y, hy, rfl⟩ := List.mem_map.1 hx; exact HZS.out y hy, by rw [List.length_map]; have := HZL.out; omega, by omega, by omega, HSB.out.mono HB2.out, HTB.out.step HB2.out hBw⟩

end Go.Proofs.Ytijhlllajddlpaa
