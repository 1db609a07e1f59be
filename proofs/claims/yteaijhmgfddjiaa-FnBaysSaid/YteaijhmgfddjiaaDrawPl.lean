/- The reference's draws of places, of a search's arguments and of a question for a free bay. -/
import Derived.Test.YteaijhmgfddjiaaDrawList
import Derived.Test.YteaijhmgfddjiaaBayG
import Derived.OwnWalk
set_option linter.unusedSimpArgs false
set_option linter.unnecessarySimpa false
set_option linter.unusedVariables false
set_option maxRecDepth 100000
namespace Go.Proofs.Yteaijhmgfddjiaa
open Go.RowKit

theorem l16DrawBudget_any (w0 : World) (p n : Nat) (cv : Value) (bs : List Int) (w : World) (h0 : Byts w0 cv bs) (ok : okByts bs) (h : Src w0 w p cv n) (hn : n ≤ 800000000) :
    Calls Try.prog 31 #[.pointer (some ⟨p, 0, none⟩)] w fun e w' => ∃ (r : Int) (m : Nat), e = .returned (.int .i64 r) ∧ (0 ≤ r ∧ r ≤ 20001) ∧ n ≤ m ∧ m ≤ n + 4 ∧ Src w0 w' p cv m ∧ Touch p (p + 1) w w' := by
  have HS := Lib.hid h
  clear h
  go_enter Try.func31, Try.ntmps31
  go_wp2_with fail
  refine (one_any w0 p n cv bs 6 _ h0 ok HS.out (by omega) (by omega) (by omega)).mono ?_
  rintro e w1 ⟨b, m1, rfl, m10, m11, hs, ht⟩
  cases b
  · go_wp2_with fail
    refine (pick_any w0 p m1 cv bs 300 _ h0 ok hs (by omega) (by omega) (by omega)).mono ?_
    rintro e w2 ⟨r, m2, rfl, r0, r1, m20, m21, hs2, ht2⟩
    have wr1 : IntKind.i64.wrap (r + 1) = r + 1 := IntWalk.i64_in _ (by omega)
    go_wp2
    go_ret
    exact ⟨r + 1, m2, rfl, ⟨by omega, by omega⟩, by omega, by omega, hs2, ht.trans ht2⟩
  · go_wp2_with fail
    refine (among_lit w0 p m1 cv bs [0, 1, 4, 20000, 20001] 5 w1.heap.size w1 h0 ok hs (by omega) rfl rfl (by simp) (by simp)).mono ?_
    rintro e w2 ⟨r, m2, rfl, rh, m20, m21, hs2, ht2⟩
    have hr : 0 ≤ r ∧ r ≤ 20001 := by simp only [List.mem_cons, List.not_mem_nil, or_false] at rh; omega
    have HR := Lib.hid hr
    clear rh hr
    go_wp2
    go_ret
    exact ⟨r, m2, rfl, HR.out, by omega, by omega, hs2, ht.trans ht2⟩

/-- The state of a draw of places: bays, castings, places. -/
structure PSt (w0 w W : World) (p n m K : Nat) (cv : Value) (xs : List BayD) (a1 : Option Addr) (c1 : Nat) (cs : List CasD) (a2 : Option Addr) (c2 : Nat) (pl : List Int) (a3 : Option Addr) (c3 : Nat) : Prop where
  b : BSt w0 w W p n m cv xs a1 c1
  rowC : W.ownsRow w.heap.size 41 5 (.slice a2 cs.length c2) cs.length (cs.flatMap CasD.cells)
  smc : ∀ x ∈ cs, smC x
  rowP : W.ownsRow K 2 1 (.slice a3 pl.length c3) pl.length (pl.map (Value.int .i64))
  nb : ∀ g, (Value.slice a1 xs.length c1).ownBlock = some g → g < K
  nc : ∀ g, (Value.slice a2 cs.length c2).ownBlock = some g → g < K
  hK : w.heap.size ≤ K
  hW : K ≤ W.heap.size
section
variable {w0 w W W' : World} {p n m m' K : Nat} {cv : Value} {xs : List BayD} {a1 : Option Addr} {c1 : Nat} {cs : List CasD} {a2 : Option Addr} {c2 : Nat} {pl pl' : List Int} {a3 a3' : Option Addr} {c3 c3' : Nat}
theorem PSt.draw (h : PSt w0 w W p n m K cv xs a1 c1 cs a2 c2 pl a3 c3) (hp : p < w.heap.size) (hs : Src w0 W' p cv m') (ht : Touch p (p + 1) W W') : PSt w0 w W' p n m' K cv xs a1 c1 cs a2 c2 pl a3 c3 :=
  ⟨h.b.draw hp hs ht, owns_touch h.rowC ht (by omega), h.smc, owns_touch h.rowP ht (by have := h.hK; omega), h.nb, h.nc, h.hK, Nat.le_trans h.hW ht.size⟩
theorem PSt.step (h : PSt w0 w W p n m K cv xs a1 c1 cs a2 c2 pl a3 c3) (hp : p < w.heap.size) (hb : Below K W W') (r : W'.ownsRow K 2 1 (.slice a3' pl'.length c3') pl'.length (pl'.map (Value.int .i64))) : PSt w0 w W' p n m K cv xs a1 c1 cs a2 c2 pl' a3' c3' :=
  ⟨⟨h.b.src.step (by have := h.hK; omega) hb, h.b.touch.step hb h.hK, owns_step h.b.row hb h.nb, h.b.sm⟩, owns_step h.rowC hb h.nc, h.smc, r, h.nb, h.nc, h.hK, Nat.le_trans h.hW hb.size⟩
theorem PSt.mono (h : PSt w0 w W p n m K cv xs a1 c1 cs a2 c2 pl a3 c3) (hp : p < w.heap.size) (hb : Below W.heap.size W W') : PSt w0 w W' p n m K cv xs a1 c1 cs a2 c2 pl a3 c3 :=
  ⟨h.b.mono hb, owns_mono h.rowC hb, h.smc, owns_mono h.rowP hb, h.nb, h.nc, h.hK, Nat.le_trans h.hW hb.size⟩
theorem PSt.rdB (h : PSt w0 w W p n m K cv xs a1 c1 cs a2 c2 pl a3 c3) : RdBayDs W (.slice a1 xs.length c1) xs := Sl.of_owns h.b.row
theorem PSt.rdC (h : PSt w0 w W p n m K cv xs a1 c1 cs a2 c2 pl a3 c3) : RdCasDs W (.slice a2 cs.length c2) cs := Sl.of_owns h.rowC
theorem PSt.rdP (h : PSt w0 w W p n m K cv xs a1 c1 cs a2 c2 pl a3 c3) : Ints W (.slice a3 pl.length c3) pl := Sl.of_owns h.rowP
end
def Placed (w0 w : World) (p n : Nat) (cv : Value) (e : Ending) (w' : World) : Prop := ∃ (xs : List BayD) (a1 : Option Addr) (c1 : Nat) (cs : List CasD) (a2 : Option Addr) (c2 : Nat) (pl : List Int) (a3 : Option Addr) (c3 m K : Nat), e = .returned (.tuple #[.slice a1 xs.length c1, .slice a2 cs.length c2, .slice a3 pl.length c3]) ∧ PSt w0 w w' p n m K cv xs a1 c1 cs a2 c2 pl a3 c3 ∧ 1 ≤ xs.length ∧ xs.length ≤ 12 ∧ cs.length ≤ 14 ∧ pl.length ≤ 30 ∧ n ≤ m ∧ m ≤ n + 500

set_option maxHeartbeats 4000000 in
theorem l16DrawPlaces_any (w0 : World) (p n : Nat) (cv : Value) (bs : List Int) (w : World) (h0 : Byts w0 cv bs) (ok : okByts bs) (h : Src w0 w p cv n) (hn : n ≤ 600000000) :
    Calls Try.prog 38 #[.pointer (some ⟨p, 0, none⟩)] w (Placed w0 w p n cv) := by
  have HS := Lib.hid h
  have hlt := h.lt
  have hlow := h.low
  clear h
  go_enter Try.func38, Try.ntmps38
  go_wp2_with fail
  refine (l16DrawBays_any w0 p n cv bs _ h0 ok HS.out (by omega)).mono ?_
  rintro e u1 ⟨xs, a1, c1, m1, rfl, hB1, hx1, hx2, m10, m11⟩
  have HB1 := Lib.hid hB1
  have hz1 := hB1.touch.size
  clear hB1 HS
  go_wp2_with fail
  refine (l16DrawList_any w0 p m1 cv bs _ h0 ok HB1.out.src (by omega)).mono ?_
  rintro e u2 ⟨cs, a2, c2, m2, rfl, hC2, hc1, m20, m21⟩
  have HC2 := Lib.hid hC2
  have hz2 := hC2.touch.size
  clear hC2
  obtain ⟨K, hKe⟩ : ∃ K, K = u2.heap.size := ⟨_, rfl⟩
  have hHP : PSt w0 w (u2.alloc (.cells #[] 2)) p n m2 K cv xs a1 c1 cs a2 c2 [] (some ⟨u2.heap.size, 0, none⟩) 0 := by
    have b2 := HB1.out.draw hlt HC2.out.src HC2.out.touch
    have rc := owns_base HC2.out.row hz1
    exact ⟨b2.mono (belowA _ _), owns_mono rc (belowA _ _), HC2.out.sm, by rw [hKe]; exact owns_empty u2 2 1 _ (Nat.le_refl _), fun g hg => by have := (b2.row.lt g hg).2; omega, fun g hg => by have := (rc.lt g hg).2; omega, by omega, by simp; omega⟩
  have HP1 := Lib.hid hHP
  have HKE := Lib.hid hKe
  clear hHP HB1 HC2 hKe
  obtain ⟨b1, hb1⟩ : ∃ b, b = baysB xs := ⟨_, rfl⟩
  obtain ⟨b2, hb2⟩ : ∃ b, b = cassB cs := ⟨_, rfl⟩
  have HE1 := Lib.hid hb1; have HE2 := Lib.hid hb2; clear hb1 hb2
  go_wp2_with fail
  generalize u2.alloc (.cells #[] 2) = W2 at HP1 ⊢
  refine (l16Bays_any _ xs _ HP1.out.rdB (fun x hx => (HP1.out.b.sm x hx).ok)).mono ?_
  rintro e w3 ⟨rfl, hq3⟩
  have HP3 := Lib.hid (HP1.out.mono hlt (hq3.below _))
  clear HP1 hq3
  rw [← HE1.out]
  cases b1
  · have HP := HP3
    clear HP3
    go_wp2_with fail
    go_loopw [7] (fun pv wr => ∃ (ql : List Int) (a : Option Addr) (c m : Nat), pv = .slice a ql.length c ∧ (ql.length ≤ cs.length ∨ ql.length = cs.length) ∧ n ≤ m ∧ m ≤ m2 + 2 * ql.length ∧ PSt w0 w wr p n m K cv xs a1 c1 cs a2 c2 ql a c) (fun pv _ => cs.length - (match pv with | .slice _ k _ => k | _ => 0))
    case atStart => exact ⟨[], _, _, m2, rfl, .inl (Nat.zero_le _), by omega, by omega, HP.out⟩
    case round =>
      clear HP
      obtain ⟨ql, a, c, m, rfl, hql', hm0, hm1, hP⟩ := hrel
      have hql : ql.length ≤ cs.length := by omega
      clear hql'
      have HP := Lib.hid hP
      clear hP
      by_cases hl : ql.length < cs.length
      · go_wp2_with fail
        refine (pick_any w0 p m cv bs (xs.length : Int) _ h0 ok HP.out.b.src (by omega) (by omega) (by omega)).mono ?_
        rintro e w6 ⟨r, m6, rfl, r0, r1, m60, m61, hs, ht⟩
        have HP6 := Lib.hid (HP.out.draw hlt hs ht)
        clear hs ht HP
        go_wp2_with (at_builtin; refine append_one rfl _ _ 28 rfl K 2 (.int .i64 0) 1 8 Try.underlying28 info_int rfl (by decide) _ ql.length _ rfl HP6.out.rowP [.int .i64 r] rfl (by simp [Value.oneCell']) rfl (by omega) (by decide) HP6.out.hW ?_)
        intro a7 k7 w7 ho7 hg7 hb7
        have HP7 := Lib.hid (HP6.out.step (pl' := ql ++ [r]) hlt hb7 (by rw [List.length_append, List.map_append]; exact ho7))
        clear ho7 hg7 hb7 HP6
        go_wp2
        go_roundw
        case rel => exact ⟨ql ++ [r], a7, k7, m6, by simp, .inl (by simp; omega), by omega, by simp; omega, HP7.out⟩
        case measure => simp <;> omega
      · have hlen : ql.length = cs.length := by omega
        have hm2 : m ≤ n + 400 := by omega
        have HLEN := Lib.hid hlen
        clear hlen hql
        cases ql with
        | nil =>
          go_wp2
          go_ret3
          exact ⟨xs, a1, c1, cs, a2, c2, [], a, c, m, K, rfl, HP.out, hx1, hx2, hc1, by simp, by omega, by omega⟩
        | cons y ys =>
          have hl1 : ¬ ys.length + 1 < cs.length := by simpa using hl
          have hl2 : ¬ ((ys.length : Int) + 1 < (cs.length : Int)) := by omega
          clear hl
          obtain ⟨g, hag, hg⟩ : ∃ g, a = some ⟨g, 0, none⟩ ∧ K ≤ g := by
            rcases HP.out.rowP.2 with ⟨e, _⟩ | ⟨g, cap, cur, e, hb, _⟩
            · simp [Value.slice.injEq] at e
            · simp only [Value.slice.injEq] at e; exact ⟨g, e.1, hb⟩
          subst hag
          have hyl : ys.length + 1 ≤ 14 := by have := HLEN.out; simp at this; omega
          go_wp2_with fail
          refine (one_any w0 p m cv bs 8 _ h0 ok HP.out.b.src (by omega) (by omega) (by omega)).mono ?_
          rintro e w6 ⟨b6, m6, rfl, m60, m61, hs, ht⟩
          have HP6 := Lib.hid (HP.out.draw hlt hs ht)
          clear hs ht HP
          cases b6
          · go_wp2
            go_ret3
            exact ⟨xs, a1, c1, cs, a2, c2, y :: ys, _, c, m6, K, rfl, HP6.out, hx1, hx2, hc1, by simp; omega, by omega, by omega⟩
          · go_wp2_with fail
            refine (among_lit w0 p m6 cv bs [-1, (xs.length : Int), 0] 3 w6.heap.size w6 h0 ok HP6.out.b.src (by omega) rfl rfl (by simp) (by simp)).mono ?_
            rintro e u7 ⟨r, m7, rfl, rh, m70, m71, hs, ht⟩
            have hP7 := HP6.out.draw hlt hs ht
            have hR := hP7.rowP
            have d1 : u7.cell? ⟨g, 0, none⟩ = some (.int .i64 y) := by rw [hR.cellAt 0 (by simp)]; rfl
            have f1 := hR.frozenAt 0
            have lg := (hR.lt g rfl).2
            have HP8 := Lib.hid (show PSt w0 w (u7.setCell ⟨g, 0, none⟩ (.int .i64 r)) p n m7 K cv xs a1 c1 cs a2 c2 (r :: ys) (some ⟨g, 0, none⟩) c from
              ⟨⟨hP7.b.src.touch ((Touch.refl g (g + 1) u7).setCell (p := ⟨g, 0, none⟩) (by simp) _) (.inl (by have := hP7.hK; omega)) (by have := hP7.hK; omega), hP7.b.touch.setNew (p := ⟨g, 0, none⟩) (by have := hP7.hK; simp only; omega) _, owns_ne hP7.b.row (fun q hq => by have := hP7.nb q hq; omega) _, hP7.b.sm⟩, owns_ne hP7.rowC (fun q hq => by have := hP7.nc q hq; omega) _, hP7.smc, (hR.stored 0 (.int .i64 r)).1, hP7.nb, hP7.nc, hP7.hK, by have := hP7.hW; simpa [World.setCell] using this⟩)
            clear hs ht rh hP7 hR HP6
            go_wp2
            go_ret3
            exact ⟨xs, a1, c1, cs, a2, c2, r :: ys, _, c, m7, K, rfl, HP8.out, hx1, hx2, hc1, by simp; omega, by omega, by omega⟩
  · go_wp2_with fail
    refine (l16Castings_any _ cs _ HP3.out.rdC (fun x hx => (HP3.out.smc x hx).ok)).mono ?_
    rintro e w4 ⟨rfl, hq4⟩
    have HP4 := Lib.hid (HP3.out.mono hlt (hq4.below _))
    clear HP3 hq4
    rw [← HE2.out]
    cases b2
    · have HP := HP4
      clear HP4
      go_wp2_with fail
      go_loopw [7] (fun pv wr => ∃ (ql : List Int) (a : Option Addr) (c m : Nat), pv = .slice a ql.length c ∧ (ql.length ≤ cs.length ∨ ql.length = cs.length) ∧ n ≤ m ∧ m ≤ m2 + 2 * ql.length ∧ PSt w0 w wr p n m K cv xs a1 c1 cs a2 c2 ql a c) (fun pv _ => cs.length - (match pv with | .slice _ k _ => k | _ => 0))
      case atStart => exact ⟨[], _, _, m2, rfl, .inl (Nat.zero_le _), by omega, by omega, HP.out⟩
      case round =>
        clear HP
        obtain ⟨ql, a, c, m, rfl, hql', hm0, hm1, hP⟩ := hrel
        have hql : ql.length ≤ cs.length := by omega
        clear hql'
        have HP := Lib.hid hP
        clear hP
        by_cases hl : ql.length < cs.length
        · go_wp2_with fail
          refine (pick_any w0 p m cv bs (xs.length : Int) _ h0 ok HP.out.b.src (by omega) (by omega) (by omega)).mono ?_
          rintro e w6 ⟨r, m6, rfl, r0, r1, m60, m61, hs, ht⟩
          have HP6 := Lib.hid (HP.out.draw hlt hs ht)
          clear hs ht HP
          go_wp2_with (at_builtin; refine append_one rfl _ _ 28 rfl K 2 (.int .i64 0) 1 8 Try.underlying28 info_int rfl (by decide) _ ql.length _ rfl HP6.out.rowP [.int .i64 r] rfl (by simp [Value.oneCell']) rfl (by omega) (by decide) HP6.out.hW ?_)
          intro a7 k7 w7 ho7 hg7 hb7
          have HP7 := Lib.hid (HP6.out.step (pl' := ql ++ [r]) hlt hb7 (by rw [List.length_append, List.map_append]; exact ho7))
          clear ho7 hg7 hb7 HP6
          go_wp2
          go_roundw
          case rel => exact ⟨ql ++ [r], a7, k7, m6, by simp, .inl (by simp; omega), by omega, by simp; omega, HP7.out⟩
          case measure => simp <;> omega
        · have hlen : ql.length = cs.length := by omega
          have hm2 : m ≤ n + 400 := by omega
          have HLEN := Lib.hid hlen
          clear hlen hql
          cases ql with
          | nil =>
            go_wp2
            go_ret3
            exact ⟨xs, a1, c1, cs, a2, c2, [], a, c, m, K, rfl, HP.out, hx1, hx2, hc1, by simp, by omega, by omega⟩
          | cons y ys =>
            have hl1 : ¬ ys.length + 1 < cs.length := by simpa using hl
            have hl2 : ¬ ((ys.length : Int) + 1 < (cs.length : Int)) := by omega
            clear hl
            obtain ⟨g, hag, hg⟩ : ∃ g, a = some ⟨g, 0, none⟩ ∧ K ≤ g := by
              rcases HP.out.rowP.2 with ⟨e, _⟩ | ⟨g, cap, cur, e, hb, _⟩
              · simp [Value.slice.injEq] at e
              · simp only [Value.slice.injEq] at e; exact ⟨g, e.1, hb⟩
            subst hag
            have hyl : ys.length + 1 ≤ 14 := by have := HLEN.out; simp at this; omega
            go_wp2_with fail
            refine (one_any w0 p m cv bs 8 _ h0 ok HP.out.b.src (by omega) (by omega) (by omega)).mono ?_
            rintro e w6 ⟨b6, m6, rfl, m60, m61, hs, ht⟩
            have HP6 := Lib.hid (HP.out.draw hlt hs ht)
            clear hs ht HP
            cases b6
            · go_wp2
              go_ret3
              exact ⟨xs, a1, c1, cs, a2, c2, y :: ys, _, c, m6, K, rfl, HP6.out, hx1, hx2, hc1, by simp; omega, by omega, by omega⟩
            · go_wp2_with fail
              refine (among_lit w0 p m6 cv bs [-1, (xs.length : Int), 0] 3 w6.heap.size w6 h0 ok HP6.out.b.src (by omega) rfl rfl (by simp) (by simp)).mono ?_
              rintro e u7 ⟨r, m7, rfl, rh, m70, m71, hs, ht⟩
              have hP7 := HP6.out.draw hlt hs ht
              have hR := hP7.rowP
              have d1 : u7.cell? ⟨g, 0, none⟩ = some (.int .i64 y) := by rw [hR.cellAt 0 (by simp)]; rfl
              have f1 := hR.frozenAt 0
              have lg := (hR.lt g rfl).2
              have HP8 := Lib.hid (show PSt w0 w (u7.setCell ⟨g, 0, none⟩ (.int .i64 r)) p n m7 K cv xs a1 c1 cs a2 c2 (r :: ys) (some ⟨g, 0, none⟩) c from
                ⟨⟨hP7.b.src.touch ((Touch.refl g (g + 1) u7).setCell (p := ⟨g, 0, none⟩) (by simp) _) (.inl (by have := hP7.hK; omega)) (by have := hP7.hK; omega), hP7.b.touch.setNew (p := ⟨g, 0, none⟩) (by have := hP7.hK; simp only; omega) _, owns_ne hP7.b.row (fun q hq => by have := hP7.nb q hq; omega) _, hP7.b.sm⟩, owns_ne hP7.rowC (fun q hq => by have := hP7.nc q hq; omega) _, hP7.smc, (hR.stored 0 (.int .i64 r)).1, hP7.nb, hP7.nc, hP7.hK, by have := hP7.hW; simpa [World.setCell] using this⟩)
              clear hs ht rh hP7 hR HP6
              go_wp2
              go_ret3
              exact ⟨xs, a1, c1, cs, a2, c2, r :: ys, _, c, m7, K, rfl, HP8.out, hx1, hx2, hc1, by simp; omega, by omega, by omega⟩
    · have HBO := Lib.hid (baysB_iff.1 HE1.out.symm)
      have HCO := Lib.hid (cassB_iff.1 HE2.out.symm)
      go_wp2_with fail
      refine (one_any w0 p m2 cv bs 4 _ h0 ok HP4.out.b.src (by omega) (by omega) (by omega)).mono ?_
      rintro e w5 ⟨b5, m5, rfl, m50, m51, hs, ht⟩
      have HP5 := Lib.hid (HP4.out.draw hlt hs ht)
      clear hs ht HP4
      cases b5
      · go_wp2_with fail
        have hP : Plc (fS (.slice a1 xs.length c1) (.slice a2 cs.length c2) 300 8) w5 w5.heap.size 300 false [] (w5.alloc (.cells #[.slice a1 xs.length c1, .slice a2 cs.length c2, .slice none 0 0, .int .i64 8, .int .i64 0, .int .i64 300, .bool false] 89)) :=
          ⟨none, 0, (by have := Box.alloc w5 [.slice a1 xs.length c1, .slice a2 cs.length c2, .slice none 0 0, .int .i64 8, .int .i64 0, .int .i64 300, .bool false] 89 _ rfl; simpa [fS] using this), owns_nil _ _ _ _, by (repeat (first | with_reducible exact Below.refl _ _ | with_reducible exact hbw | (with_reducible refine Below.setCell ?_ ?_ _; rotate_left; · first | exact Nat.le_refl _ | omega | (simp; done) | (simp; omega)) | (with_reducible refine Below.alloc ?_ ?_ _; rotate_left; · first | exact Nat.le_refl _ | omega | (simp; done) | (simp; omega)) | with_reducible refine below_drewN ?_ _ | with_reducible refine Below.drew ?_))⟩
        refine (run_any xs cs _ _ 8 w5.heap.size 300 w5 HP5.out.rdB HP5.out.rdC rfl HCO.out.mem HBO.out.len HCO.out.len (by omega) (by omega) cs.length [] 300 _ (by simp) (plIn_nil _) (Nat.le_refl _) hP).mono ?_
        rintro e w6 ⟨rfl, hP6⟩
        have hok := run_ok xs cs 8 cs.length [] 300 (plIn_nil _)
        obtain ⟨R, hR⟩ : ∃ R, R = runB xs cs 8 cs.length [] 300 := ⟨_, rfl⟩
        rw [← hR] at hP6 hok ⊢
        have HR := Lib.hid hR; clear hR hP
        obtain ⟨aq, cq, hB6, hr6, hbw6⟩ := hP6
        have c2' := hB6.at' 2 _ rfl
        have l6 := hB6.lt
        have HP6 := Lib.hid (HP5.out.mono hlt hbw6)
        have HW6 := Lib.hid HP6.out.hW
        clear hB6 hbw6 HP5
        cases hf : R.found
        · have HP := HP6
          clear HP6 hok hr6 hf c2' l6
          go_wp2_with fail
          go_loopw [7] (fun pv wr => ∃ (ql : List Int) (a : Option Addr) (c m : Nat), pv = .slice a ql.length c ∧ (ql.length ≤ cs.length ∨ ql.length = cs.length) ∧ n ≤ m ∧ m ≤ m5 + 2 * ql.length ∧ PSt w0 w wr p n m K cv xs a1 c1 cs a2 c2 ql a c) (fun pv _ => cs.length - (match pv with | .slice _ k _ => k | _ => 0))
          case atStart => exact ⟨[], _, _, m5, rfl, .inl (Nat.zero_le _), by omega, by omega, HP.out⟩
          case round =>
            clear HP
            obtain ⟨ql, a, c, m, rfl, hql', hm0, hm1, hP⟩ := hrel
            have hql : ql.length ≤ cs.length := by omega
            clear hql'
            have HP := Lib.hid hP
            clear hP
            by_cases hl : ql.length < cs.length
            · go_wp2_with fail
              refine (pick_any w0 p m cv bs (xs.length : Int) _ h0 ok HP.out.b.src (by omega) (by omega) (by omega)).mono ?_
              rintro e w6 ⟨r, m6, rfl, r0, r1, m60, m61, hs, ht⟩
              have HP6 := Lib.hid (HP.out.draw hlt hs ht)
              clear hs ht HP
              go_wp2_with (at_builtin; refine append_one rfl _ _ 28 rfl K 2 (.int .i64 0) 1 8 Try.underlying28 info_int rfl (by decide) _ ql.length _ rfl HP6.out.rowP [.int .i64 r] rfl (by simp [Value.oneCell']) rfl (by omega) (by decide) HP6.out.hW ?_)
              intro a7 k7 w7 ho7 hg7 hb7
              have HP7 := Lib.hid (HP6.out.step (pl' := ql ++ [r]) hlt hb7 (by rw [List.length_append, List.map_append]; exact ho7))
              clear ho7 hg7 hb7 HP6
              go_wp2
              go_roundw
              case rel => exact ⟨ql ++ [r], a7, k7, m6, by simp, .inl (by simp; omega), by omega, by simp; omega, HP7.out⟩
              case measure => simp <;> omega
            · have hlen : ql.length = cs.length := by omega
              have hm2 : m ≤ n + 400 := by omega
              have HLEN := Lib.hid hlen
              clear hlen hql
              cases ql with
              | nil =>
                go_wp2
                go_ret3
                exact ⟨xs, a1, c1, cs, a2, c2, [], a, c, m, K, rfl, HP.out, hx1, hx2, hc1, by simp, by omega, by omega⟩
              | cons y ys =>
                have hl1 : ¬ ys.length + 1 < cs.length := by simpa using hl
                have hl2 : ¬ ((ys.length : Int) + 1 < (cs.length : Int)) := by omega
                clear hl
                obtain ⟨g, hag, hg⟩ : ∃ g, a = some ⟨g, 0, none⟩ ∧ K ≤ g := by
                  rcases HP.out.rowP.2 with ⟨e, _⟩ | ⟨g, cap, cur, e, hb, _⟩
                  · simp [Value.slice.injEq] at e
                  · simp only [Value.slice.injEq] at e; exact ⟨g, e.1, hb⟩
                subst hag
                have hyl : ys.length + 1 ≤ 14 := by have := HLEN.out; simp at this; omega
                go_wp2_with fail
                refine (one_any w0 p m cv bs 8 _ h0 ok HP.out.b.src (by omega) (by omega) (by omega)).mono ?_
                rintro e w6 ⟨b6, m6, rfl, m60, m61, hs, ht⟩
                have HP6 := Lib.hid (HP.out.draw hlt hs ht)
                clear hs ht HP
                cases b6
                · go_wp2
                  go_ret3
                  exact ⟨xs, a1, c1, cs, a2, c2, y :: ys, _, c, m6, K, rfl, HP6.out, hx1, hx2, hc1, by simp; omega, by omega, by omega⟩
                · go_wp2_with fail
                  refine (among_lit w0 p m6 cv bs [-1, (xs.length : Int), 0] 3 w6.heap.size w6 h0 ok HP6.out.b.src (by omega) rfl rfl (by simp) (by simp)).mono ?_
                  rintro e u7 ⟨r, m7, rfl, rh, m70, m71, hs, ht⟩
                  have hP7 := HP6.out.draw hlt hs ht
                  have hR := hP7.rowP
                  have d1 : u7.cell? ⟨g, 0, none⟩ = some (.int .i64 y) := by rw [hR.cellAt 0 (by simp)]; rfl
                  have f1 := hR.frozenAt 0
                  have lg := (hR.lt g rfl).2
                  have HP8 := Lib.hid (show PSt w0 w (u7.setCell ⟨g, 0, none⟩ (.int .i64 r)) p n m7 K cv xs a1 c1 cs a2 c2 (r :: ys) (some ⟨g, 0, none⟩) c from
                    ⟨⟨hP7.b.src.touch ((Touch.refl g (g + 1) u7).setCell (p := ⟨g, 0, none⟩) (by simp) _) (.inl (by have := hP7.hK; omega)) (by have := hP7.hK; omega), hP7.b.touch.setNew (p := ⟨g, 0, none⟩) (by have := hP7.hK; simp only; omega) _, owns_ne hP7.b.row (fun q hq => by have := hP7.nb q hq; omega) _, hP7.b.sm⟩, owns_ne hP7.rowC (fun q hq => by have := hP7.nc q hq; omega) _, hP7.smc, (hR.stored 0 (.int .i64 r)).1, hP7.nb, hP7.nc, hP7.hK, by have := hP7.hW; simpa [World.setCell] using this⟩)
                  clear hs ht rh hP7 hR HP6
                  go_wp2
                  go_ret3
                  exact ⟨xs, a1, c1, cs, a2, c2, r :: ys, _, c, m7, K, rfl, HP8.out, hx1, hx2, hc1, by simp; omega, by omega, by omega⟩
        · have hpl : R.pl.length = cs.length := by have := (hok.found hf).2.1; simpa using this
          have HI := Lib.hid (show Ints w6 (.slice aq R.pl.length cq) R.pl from Sl.of_owns hr6)
          have HLE := Lib.hid hpl
          have hpl12 : R.pl.length ≤ 12 := by have := HCO.out.len; omega
          clear hok hr6 hf hpl
          go_wp2_with fail
          refine (l00Own_any _ R.pl _ HI.out (by omega)).mono ?_
          rintro e w7 ⟨v7, rfl, ho7, hb7⟩
          obtain ⟨a7, c7, rfl⟩ := ho7.form
          have HP := Lib.hid (HP6.out.step (pl' := R.pl) hlt (hb7.mono HP6.out.hW) (owns_base ho7.1 HP6.out.hW))
          clear ho7 hb7 HP6 c2' l6
          go_wp2_with fail
          go_loopw [7] (fun pv wr => ∃ (ql : List Int) (a : Option Addr) (c m : Nat), pv = .slice a ql.length c ∧ (ql.length ≤ cs.length ∨ ql.length = cs.length) ∧ n ≤ m ∧ m ≤ m5 + 2 * ql.length ∧ PSt w0 w wr p n m K cv xs a1 c1 cs a2 c2 ql a c) (fun pv _ => cs.length - (match pv with | .slice _ k _ => k | _ => 0))
          case atStart => exact ⟨R.pl, _, _, m5, rfl, .inr HLE.out, by omega, by omega, HP.out⟩
          case round =>
            clear HP
            obtain ⟨ql, a, c, m, rfl, hql', hm0, hm1, hP⟩ := hrel
            have hql : ql.length ≤ cs.length := by omega
            clear hql'
            have HP := Lib.hid hP
            clear hP
            by_cases hl : ql.length < cs.length
            · go_wp2_with fail
              refine (pick_any w0 p m cv bs (xs.length : Int) _ h0 ok HP.out.b.src (by omega) (by omega) (by omega)).mono ?_
              rintro e w6 ⟨r, m6, rfl, r0, r1, m60, m61, hs, ht⟩
              have HP6 := Lib.hid (HP.out.draw hlt hs ht)
              clear hs ht HP
              go_wp2_with (at_builtin; refine append_one rfl _ _ 28 rfl K 2 (.int .i64 0) 1 8 Try.underlying28 info_int rfl (by decide) _ ql.length _ rfl HP6.out.rowP [.int .i64 r] rfl (by simp [Value.oneCell']) rfl (by omega) (by decide) HP6.out.hW ?_)
              intro a7 k7 w7 ho7 hg7 hb7
              have HP7 := Lib.hid (HP6.out.step (pl' := ql ++ [r]) hlt hb7 (by rw [List.length_append, List.map_append]; exact ho7))
              clear ho7 hg7 hb7 HP6
              go_wp2
              go_roundw
              case rel => exact ⟨ql ++ [r], a7, k7, m6, by simp, .inl (by simp; omega), by omega, by simp; omega, HP7.out⟩
              case measure => simp <;> omega
            · have hlen : ql.length = cs.length := by omega
              have hm2 : m ≤ n + 400 := by omega
              have HLEN := Lib.hid hlen
              clear hlen hql
              cases ql with
              | nil =>
                go_wp2
                go_ret3
                exact ⟨xs, a1, c1, cs, a2, c2, [], a, c, m, K, rfl, HP.out, hx1, hx2, hc1, by simp, by omega, by omega⟩
              | cons y ys =>
                have hl1 : ¬ ys.length + 1 < cs.length := by simpa using hl
                have hl2 : ¬ ((ys.length : Int) + 1 < (cs.length : Int)) := by omega
                clear hl
                obtain ⟨g, hag, hg⟩ : ∃ g, a = some ⟨g, 0, none⟩ ∧ K ≤ g := by
                  rcases HP.out.rowP.2 with ⟨e, _⟩ | ⟨g, cap, cur, e, hb, _⟩
                  · simp [Value.slice.injEq] at e
                  · simp only [Value.slice.injEq] at e; exact ⟨g, e.1, hb⟩
                subst hag
                have hyl : ys.length + 1 ≤ 14 := by have := HLEN.out; simp at this; omega
                go_wp2_with fail
                refine (one_any w0 p m cv bs 8 _ h0 ok HP.out.b.src (by omega) (by omega) (by omega)).mono ?_
                rintro e w6 ⟨b6, m6, rfl, m60, m61, hs, ht⟩
                have HP6 := Lib.hid (HP.out.draw hlt hs ht)
                clear hs ht HP
                cases b6
                · go_wp2
                  go_ret3
                  exact ⟨xs, a1, c1, cs, a2, c2, y :: ys, _, c, m6, K, rfl, HP6.out, hx1, hx2, hc1, by simp; omega, by omega, by omega⟩
                · go_wp2_with fail
                  refine (among_lit w0 p m6 cv bs [-1, (xs.length : Int), 0] 3 w6.heap.size w6 h0 ok HP6.out.b.src (by omega) rfl rfl (by simp) (by simp)).mono ?_
                  rintro e u7 ⟨r, m7, rfl, rh, m70, m71, hs, ht⟩
                  have hP7 := HP6.out.draw hlt hs ht
                  have hR := hP7.rowP
                  have d1 : u7.cell? ⟨g, 0, none⟩ = some (.int .i64 y) := by rw [hR.cellAt 0 (by simp)]; rfl
                  have f1 := hR.frozenAt 0
                  have lg := (hR.lt g rfl).2
                  have HP8 := Lib.hid (show PSt w0 w (u7.setCell ⟨g, 0, none⟩ (.int .i64 r)) p n m7 K cv xs a1 c1 cs a2 c2 (r :: ys) (some ⟨g, 0, none⟩) c from
                    ⟨⟨hP7.b.src.touch ((Touch.refl g (g + 1) u7).setCell (p := ⟨g, 0, none⟩) (by simp) _) (.inl (by have := hP7.hK; omega)) (by have := hP7.hK; omega), hP7.b.touch.setNew (p := ⟨g, 0, none⟩) (by have := hP7.hK; simp only; omega) _, owns_ne hP7.b.row (fun q hq => by have := hP7.nb q hq; omega) _, hP7.b.sm⟩, owns_ne hP7.rowC (fun q hq => by have := hP7.nc q hq; omega) _, hP7.smc, (hR.stored 0 (.int .i64 r)).1, hP7.nb, hP7.nc, hP7.hK, by have := hP7.hW; simpa [World.setCell] using this⟩)
                  clear hs ht rh hP7 hR HP6
                  go_wp2
                  go_ret3
                  exact ⟨xs, a1, c1, cs, a2, c2, r :: ys, _, c, m7, K, rfl, HP8.out, hx1, hx2, hc1, by simp; omega, by omega, by omega⟩
      · have HP := HP5
        clear HP5
        go_wp2_with fail
        go_loopw [7] (fun pv wr => ∃ (ql : List Int) (a : Option Addr) (c m : Nat), pv = .slice a ql.length c ∧ (ql.length ≤ cs.length ∨ ql.length = cs.length) ∧ n ≤ m ∧ m ≤ m5 + 2 * ql.length ∧ PSt w0 w wr p n m K cv xs a1 c1 cs a2 c2 ql a c) (fun pv _ => cs.length - (match pv with | .slice _ k _ => k | _ => 0))
        case atStart => exact ⟨[], _, _, m5, rfl, .inl (Nat.zero_le _), by omega, by omega, HP.out⟩
        case round =>
          clear HP
          obtain ⟨ql, a, c, m, rfl, hql', hm0, hm1, hP⟩ := hrel
          have hql : ql.length ≤ cs.length := by omega
          clear hql'
          have HP := Lib.hid hP
          clear hP
          by_cases hl : ql.length < cs.length
          · go_wp2_with fail
            refine (pick_any w0 p m cv bs (xs.length : Int) _ h0 ok HP.out.b.src (by omega) (by omega) (by omega)).mono ?_
            rintro e w6 ⟨r, m6, rfl, r0, r1, m60, m61, hs, ht⟩
            have HP6 := Lib.hid (HP.out.draw hlt hs ht)
            clear hs ht HP
            go_wp2_with (at_builtin; refine append_one rfl _ _ 28 rfl K 2 (.int .i64 0) 1 8 Try.underlying28 info_int rfl (by decide) _ ql.length _ rfl HP6.out.rowP [.int .i64 r] rfl (by simp [Value.oneCell']) rfl (by omega) (by decide) HP6.out.hW ?_)
            intro a7 k7 w7 ho7 hg7 hb7
            have HP7 := Lib.hid (HP6.out.step (pl' := ql ++ [r]) hlt hb7 (by rw [List.length_append, List.map_append]; exact ho7))
            clear ho7 hg7 hb7 HP6
            go_wp2
            go_roundw
            case rel => exact ⟨ql ++ [r], a7, k7, m6, by simp, .inl (by simp; omega), by omega, by simp; omega, HP7.out⟩
            case measure => simp <;> omega
          · have hlen : ql.length = cs.length := by omega
            have hm2 : m ≤ n + 400 := by omega
            have HLEN := Lib.hid hlen
            clear hlen hql
            cases ql with
            | nil =>
              go_wp2
              go_ret3
              exact ⟨xs, a1, c1, cs, a2, c2, [], a, c, m, K, rfl, HP.out, hx1, hx2, hc1, by simp, by omega, by omega⟩
            | cons y ys =>
              have hl1 : ¬ ys.length + 1 < cs.length := by simpa using hl
              have hl2 : ¬ ((ys.length : Int) + 1 < (cs.length : Int)) := by omega
              clear hl
              obtain ⟨g, hag, hg⟩ : ∃ g, a = some ⟨g, 0, none⟩ ∧ K ≤ g := by
                rcases HP.out.rowP.2 with ⟨e, _⟩ | ⟨g, cap, cur, e, hb, _⟩
                · simp [Value.slice.injEq] at e
                · simp only [Value.slice.injEq] at e; exact ⟨g, e.1, hb⟩
              subst hag
              have hyl : ys.length + 1 ≤ 14 := by have := HLEN.out; simp at this; omega
              go_wp2_with fail
              refine (one_any w0 p m cv bs 8 _ h0 ok HP.out.b.src (by omega) (by omega) (by omega)).mono ?_
              rintro e w6 ⟨b6, m6, rfl, m60, m61, hs, ht⟩
              have HP6 := Lib.hid (HP.out.draw hlt hs ht)
              clear hs ht HP
              cases b6
              · go_wp2
                go_ret3
                exact ⟨xs, a1, c1, cs, a2, c2, y :: ys, _, c, m6, K, rfl, HP6.out, hx1, hx2, hc1, by simp; omega, by omega, by omega⟩
              · go_wp2_with fail
                refine (among_lit w0 p m6 cv bs [-1, (xs.length : Int), 0] 3 w6.heap.size w6 h0 ok HP6.out.b.src (by omega) rfl rfl (by simp) (by simp)).mono ?_
                rintro e u7 ⟨r, m7, rfl, rh, m70, m71, hs, ht⟩
                have hP7 := HP6.out.draw hlt hs ht
                have hR := hP7.rowP
                have d1 : u7.cell? ⟨g, 0, none⟩ = some (.int .i64 y) := by rw [hR.cellAt 0 (by simp)]; rfl
                have f1 := hR.frozenAt 0
                have lg := (hR.lt g rfl).2
                have HP8 := Lib.hid (show PSt w0 w (u7.setCell ⟨g, 0, none⟩ (.int .i64 r)) p n m7 K cv xs a1 c1 cs a2 c2 (r :: ys) (some ⟨g, 0, none⟩) c from
                  ⟨⟨hP7.b.src.touch ((Touch.refl g (g + 1) u7).setCell (p := ⟨g, 0, none⟩) (by simp) _) (.inl (by have := hP7.hK; omega)) (by have := hP7.hK; omega), hP7.b.touch.setNew (p := ⟨g, 0, none⟩) (by have := hP7.hK; simp only; omega) _, owns_ne hP7.b.row (fun q hq => by have := hP7.nb q hq; omega) _, hP7.b.sm⟩, owns_ne hP7.rowC (fun q hq => by have := hP7.nc q hq; omega) _, hP7.smc, (hR.stored 0 (.int .i64 r)).1, hP7.nb, hP7.nc, hP7.hK, by have := hP7.hW; simpa [World.setCell] using this⟩)
                clear hs ht rh hP7 hR HP6
                go_wp2
                go_ret3
                exact ⟨xs, a1, c1, cs, a2, c2, r :: ys, _, c, m7, K, rfl, HP8.out, hx1, hx2, hc1, by simp; omega, by omega, by omega⟩

end Go.Proofs.Yteaijhmgfddjiaa
