/- The reference's draws of bays and of castings. -/
import Derived.Test.YteaijhmgfddjiaaDrawOne
set_option linter.unusedSimpArgs false
set_option linter.unnecessarySimpa false
set_option linter.unusedVariables false
set_option maxRecDepth 100000
namespace Go.Proofs.Yteaijhmgfddjiaa
open Go.RowKit

/-- A store into field j of the block q, made here, beside a row of one's own. -/
theorem field_setR {w0 w W : World} {p m q j base n size : Nat} {e : TypeId} {v cv u : Value} {cs rs : List Value} (BQ : Box W q cs) (R : W.ownsRow base e size v n rs) (hne : ∀ g, v.ownBlock = some g → g < q) (HS : Src w0 W p cv m) (HT : Touch p (p + 1) w W) (hpq : p < q) (hwq : w.heap.size ≤ q) (hw0 : w0.heap.size ≤ q) (hj : j < cs.length) :
    Box (W.setCell ⟨q, j, none⟩ u) q (cs.set j u) ∧ (W.setCell ⟨q, j, none⟩ u).ownsRow base e size v n rs ∧ Src w0 (W.setCell ⟨q, j, none⟩ u) p cv m ∧ Touch p (p + 1) w (W.setCell ⟨q, j, none⟩ u) ∧ (W.setCell ⟨q, j, none⟩ u).heap.size = W.heap.size := by
  have t : Touch q (q + 1) W (W.setCell ⟨q, j, none⟩ u) := (Touch.refl _ _ W).setCell (p := ⟨q, j, none⟩) (by simp) _
  exact ⟨BQ.set u hj, owns_ne R (fun g hg => by have := hne g hg; omega) u, HS.touch t (.inl hpq) hw0, HT.setNew (p := ⟨q, j, none⟩) hwq _, by simp [World.setCell]⟩
/-- One byte as a text. -/
theorem byte_of {k : Int} (h0 : 0 ≤ k) (h1 : k ≤ 255) : ∃ b : UInt8, (b.toNat : Int) = k := ⟨UInt8.ofNat k.toNat, by rw [UInt8.toNat_ofNat']; omega⟩
/-- The state of a draw of bays. -/
structure BSt (w0 w W : World) (p n m : Nat) (cv : Value) (xs : List BayD) (a : Option Addr) (c : Nat) : Prop where
  src : Src w0 W p cv m
  touch : Touch p (p + 1) w W
  row : W.ownsRow w.heap.size 79 3 (.slice a xs.length c) xs.length (xs.flatMap BayD.cells)
  sm : ∀ x ∈ xs, smP x
section
variable {w0 w W W' : World} {p n m m' : Nat} {cv : Value} {xs : List BayD} {a : Option Addr} {c : Nat}
theorem BSt.draw (h : BSt w0 w W p n m cv xs a c) (hp : p < w.heap.size) (hs : Src w0 W' p cv m') (ht : Touch p (p + 1) W W') : BSt w0 w W' p n m' cv xs a c :=
  ⟨hs, h.touch.trans ht, owns_touch h.row ht (by omega), h.sm⟩
theorem BSt.mono (h : BSt w0 w W p n m cv xs a c) (hb : Below W.heap.size W W') : BSt w0 w W' p n m cv xs a c :=
  ⟨h.src.mono hb, h.touch.step hb h.touch.size, owns_mono h.row hb, h.sm⟩
end
def Bayed (w0 w : World) (p n : Nat) (cv : Value) (e : Ending) (w' : World) : Prop := ∃ (xs : List BayD) (a : Option Addr) (c m : Nat), e = .returned (.slice a xs.length c) ∧ BSt w0 w w' p n m cv xs a c ∧ 1 ≤ xs.length ∧ xs.length ≤ 12 ∧ n ≤ m ∧ m ≤ n + 60

set_option maxHeartbeats 4000000 in
theorem l16DrawBays_any (w0 : World) (p n : Nat) (cv : Value) (bs : List Int) (w : World) (h0 : Byts w0 cv bs) (ok : okByts bs) (h : Src w0 w p cv n) (hn : n ≤ 700000000) :
    Calls Try.prog 29 #[.pointer (some ⟨p, 0, none⟩)] w (Bayed w0 w p n cv) := by
  have HS := Lib.hid h
  have hlt := h.lt
  have hlow := h.low
  clear h
  go_enter Try.func29, Try.ntmps29
  go_wp2_with fail
  have HB0 := Lib.hid (show BSt w0 w (w.alloc (.cells #[] 79)) p n n cv [] (some ⟨w.heap.size, 0, none⟩) 0 from ⟨HS.out.mono (belowA _ _), (Touch.refl _ _ _).alloc _, owns_empty w 79 3 _ (Nat.le_refl _), fun x hx => by cases hx⟩)
  refine (pick_any w0 p n cv bs 4 _ h0 ok HB0.out.src (by omega) (by omega) (by omega)).mono ?_
  rintro e w1 ⟨k1, m1, rfl, k10, k11, m10, m11, hs, ht⟩
  have HB1 := Lib.hid (HB0.out.draw hlt hs ht)
  clear hs ht HB0
  go_wp2_with fail
  go_loopw [3, 4] (fun sv kv wr => ∃ (k : Int) (xs : List BayD) (a : Option Addr) (c m : Nat), sv = .slice a xs.length c ∧ kv = .int .i64 k ∧ -1 ≤ k ∧ (xs.length : Int) + k ≤ 3 ∧ (0 ≤ k ∨ 1 ≤ xs.length) ∧ n ≤ m ∧ m ≤ n + 4 + 4 * xs.length ∧ BSt w0 w wr p n m cv xs a c) (fun _ kv _ => (intOf kv + 1).toNat)
  case atStart => exact ⟨k1, [], _, _, m1, rfl, rfl, by omega, by simp; omega, .inl k10, m10, by omega, HB1.out⟩
  case round =>
    clear HB1
    obtain ⟨k, xs, a, c, m, rfl, rfl, hk0, hk1, hne, hm0, hm1, hB⟩ := hrel
    have HB := Lib.hid hB
    have hzr := hB.touch.size
    clear hB
    by_cases hk : 0 ≤ k
    · have wr1 : IntKind.i64.wrap (100 - k) = 100 - k := IntWalk.i64_in _ (by omega)
      obtain ⟨b, hb⟩ := byte_of (k := 100 - k) (by omega) (by omega)
      have wr2 : IntKind.u8.wrap (100 - k) = 100 - k := by rw [← hb]; have := b.toNat_lt; simp [IntKind.wrap, IntKind.bits, IntKind.signed]; omega
      have hconv := run_convert_bytes_back (P := Try.prog) (wr.alloc (.cells #[.int .u8 (100 - k)] 5)) 22 9 5 ⟨wr.heap.size, 0, none⟩ 1 [b] Try.underlying22 Try.underlying5 Try.underlying9 (fun i hi => by
        obtain rfl : i = 0 := by simp at hi; exact hi
        rw [Addr.add_lit]
        simp [go_sem, hb])
      simp only [List.length_cons, List.length_nil, Nat.zero_add] at hconv
      obtain ⟨s, hs⟩ : ∃ s : ByteArray, s = (⟨#[112]⟩ : ByteArray) ++ ⟨#[b]⟩ := ⟨_, rfl⟩
      have hs1 : ((⟨#[112]⟩ : ByteArray) ++ ⟨#[b]⟩).size = 2 := ByteArray.size_append
      have HSZ := Lib.hid (show s.size ≤ 20 by rw [hs, hs1]; omega)
      clear hb
      go_wp2_with fail
      rw [← hs]
      clear hconv hs hs1 wr1 wr2
      obtain ⟨W1, hW1⟩ : ∃ W1, W1 = (wr.alloc (.cells #[.int .u8 (100 - k)] 5)).alloc (.cells #[.string s, .int .i64 0, .int .i64 0] 79) := ⟨_, rfl⟩
      have HB1 := (HB.out.mono (belowA wr (.cells #[.int .u8 (100 - k)] 5))).mono (belowA _ (.cells #[.string s, .int .i64 0, .int .i64 0] 79))
      have FQ := Lib.hid (show Box W1 (wr.heap.size + 1) [.string s, .int .i64 0, .int .i64 0] by rw [hW1]; exact Box.alloc _ _ _ (wr.heap.size + 1) (by simp))
      have HNE := Lib.hid (show ∀ g, (Value.slice a xs.length c).ownBlock = some g → g < (wr.heap.size + 1) from fun g hg => by have := (HB.out.row.lt g hg).2; omega)
      rw [← hW1] at HB1
      have FR := Lib.hid HB1.row; have FS := Lib.hid HB1.src; have FT := Lib.hid HB1.touch
      have HSM := Lib.hid HB1.sm
      have hz : W1.heap.size = (wr.heap.size + 1) + 1 := by rw [hW1]; simp
      rw [← hW1]
      have hpq : p < wr.heap.size + 1 := by omega
      clear hW1 HB1 HB
      refine (among_lit w0 p m cv bs [40000, 60000, 90000] 3 ((wr.heap.size + 1) + 1) W1 h0 ok FS.out (by omega) hz rfl (by simp) (by simp)).mono ?_
      rintro e u2 ⟨r2, m2, rfl, rh, m20, m21, hs, ht⟩
      have HR2 := Lib.hid (show smB r2 by simp only [List.mem_cons, List.not_mem_nil, or_false] at rh; unfold smB; omega)
      clear rh
      have zz2 := ht.size
      have b2 := FQ.out.touch ht (.inr (by omega))
      have rwf := owns_touch FR.out ht (by omega)
      obtain ⟨fQ, fR, fS, fT, fz⟩ := field_setR (j := 1) (u := .int .i64 r2) b2 rwf HNE.out hs (FT.out.trans ht) hpq (by omega) (by omega) (by simp)
      have c0 := b2.at' 1 _ rfl
      have g0 := b2.fr 1
      have l0 := b2.lt
      have FQ := Lib.hid fQ; have FR := Lib.hid fR; have FS := Lib.hid fS; have FT := Lib.hid fT; have FZ := Lib.hid fz
      clear fQ fR fS fT fz b2 rwf hs ht
      go_wp2_with fail
      generalize u2.setCell ⟨wr.heap.size + 1, 1, none⟩ (.int .i64 r2) = W2 at FQ FR FS FT FZ ⊢
      have hz2 := FZ.out
      clear c0 g0 l0
      have hzq : (wr.heap.size + 1) < u2.heap.size := by omega
      refine (among_lit w0 p m2 cv bs [50000, 90000, 120000] 3 u2.heap.size W2 h0 ok FS.out (by omega) hz2 rfl (by simp) (by simp)).mono ?_
      rintro e u3 ⟨r3, m3, rfl, rh, m30, m31, hs, ht⟩
      have HR3 := Lib.hid (show smB r3 by simp only [List.mem_cons, List.not_mem_nil, or_false] at rh; unfold smB; omega)
      clear rh
      have zz3 := ht.size
      have b2 := FQ.out.touch ht (.inr (by omega))
      have r2' := owns_touch FR.out ht (by omega)
      obtain ⟨fQ, fR, fS, fT, fz⟩ := field_setR (j := 2) (u := .int .i64 r3) b2 r2' HNE.out hs (FT.out.trans ht) hpq (by omega) (by omega) (by simp)
      have c0 := b2.at' 0 _ rfl
      have c1 := b2.at' 1 _ rfl
      have c2 := b2.at' 2 _ rfl
      have g2 := b2.fr 2
      have l2 := b2.lt
      have FR := Lib.hid fR; have FS := Lib.hid fS; have FT := Lib.hid fT; have FZ := Lib.hid fz
      have hwz : w.heap.size ≤ (u3.setCell ⟨(wr.heap.size + 1), 2, none⟩ (.int .i64 r3)).heap.size := by rw [fz]; omega
      have HFA := Lib.hid (belowA (u3.setCell ⟨(wr.heap.size + 1), 2, none⟩ (.int .i64 r3)) (.cells #[.string s, .int .i64 r2, .int .i64 r3] 79))
      clear fQ fR fS fT fz b2 r2' hs ht FQ
      go_wp2_with (at_builtin; refine append_one_at rfl _ _ 24 rfl w.heap.size 79 (.agg #[.string ⟨#[]⟩, .int .i64 0, .int .i64 0]) 3 32 Try.underlying24 info_Bay rfl (by decide) _ xs.length _ rfl FR.out [.string s, .int .i64 r2, .int .i64 r3] rfl (by simp [Value.oneCell']) u3.heap.size FZ.out rfl (by omega) (by decide) hwz ?_)
      intro a4 k4 w4 ho4 hg4 hb4 _
      have hHB : BSt w0 w w4 p n m3 cv (xs ++ [⟨s, r2, r3⟩]) a4 k4 := ⟨FS.out.step (by omega) hb4, FT.out.step hb4 (Nat.le_refl _), by rw [List.length_append, List.flatMap_append]; exact ho4, fun x hx => by
        rcases List.mem_append.1 hx with hx | hx
        · exact HSM.out x hx
        · rw [List.mem_singleton.1 hx]; exact ⟨HSZ.out, HR2.out, HR3.out⟩⟩
      have HB4 := Lib.hid hHB
      clear hg4 hb4 ho4 hHB c0 c1 c2 g2 l2 hwz
      go_wp2
      go_roundw
      case rel => exact ⟨k - 1, xs ++ [⟨s, r2, r3⟩], a4, k4, m3, by simp, by go_num, by omega, by simp; omega, .inr (by simp), by omega, by simp; omega, HB4.out⟩
      case measure => simp [intOf]; omega
    · have hx1 : 1 ≤ xs.length := by omega
      go_wp2_with fail
      refine (pick_any w0 p m cv bs 18 _ h0 ok HB.out.src (by omega) (by omega) (by omega)).mono ?_
      rintro e w2 ⟨v, m2, rfl, v0, v1, m20, m21, hs, ht⟩
      have HB2 := Lib.hid (HB.out.draw hlt hs ht)
      clear hs ht HB
      by_cases e0 : v = 0
      · subst e0
        obtain ⟨g, hag, hg⟩ : ∃ g, a = some ⟨g, 0, none⟩ ∧ w.heap.size ≤ g := by
          rcases HB2.out.row.2 with ⟨e, _⟩ | ⟨g, cap, cur, e, hb, _⟩
          · simp only [Value.slice.injEq] at e; omega
          · simp only [Value.slice.injEq] at e; exact ⟨g, e.1, hb⟩
        subst hag
        obtain ⟨x, ys, rfl⟩ : ∃ x ys, xs = x :: ys := by
          cases xs with
          | nil => simp at hx1
          | cons x ys => exact ⟨x, ys, rfl⟩
        go_wp2_with fail
        refine (among_lit w0 p m2 cv bs [0, 300000, 300001] 3 w2.heap.size w2 h0 ok HB2.out.src (by omega) rfl rfl (by simp) (by simp)).mono ?_
        rintro e u3 ⟨r, m3, rfl, rh, m30, m31, hs, ht⟩
        have HR := Lib.hid (show smB r by simp only [List.mem_cons, List.not_mem_nil, or_false] at rh; unfold smB; omega)
        have hB3 := HB2.out.draw hlt hs ht
        have hR := hB3.row
        have d1 : u3.cell? ⟨g, 1, none⟩ = some (.int .i64 x.radius) := by rw [hR.cellAt 1 (by simp; omega)]; rfl
        have f1 := hR.frozenAt 1
        have lg := (hR.lt g rfl).2
        have HB3 := Lib.hid (show BSt w0 w (u3.setCell ⟨g, 1, none⟩ (.int .i64 r)) p n m3 cv (⟨x.id, r, x.depth⟩ :: ys) (some ⟨g, 0, none⟩) c from
          ⟨hB3.src.touch ((Touch.refl g (g + 1) u3).setCell (p := ⟨g, 1, none⟩) (by simp) _) (.inl (by omega)) (by omega), hB3.touch.setNew (p := ⟨g, 1, none⟩) hg _, (hR.stored 1 (.int .i64 r)).1, fun y hy => by
            rcases List.mem_cons.1 hy with rfl | hy
            · exact ⟨(hB3.sm x (List.mem_cons_self ..)).id, HR.out, (hB3.sm x (List.mem_cons_self ..)).depth⟩
            · exact hB3.sm y (List.mem_cons_of_mem _ hy)⟩)
        have hxl : ys.length + 1 ≤ 4 := by simp at hk1; omega
        clear hs ht rh hB3 hR
        go_wp2
        go_ret
        exact ⟨⟨x.id, r, x.depth⟩ :: ys, _, c, m3, rfl, HB3.out, by simp, by simp; omega, by omega, by simp at hm1; omega⟩
      · by_cases e1 : v = 1
        · subst e1
          have hwz : w.heap.size ≤ w2.heap.size := HB2.out.touch.size
          go_wp2_with (at_builtin; refine append_one_at rfl _ _ 24 rfl w.heap.size 79 (.agg #[.string ⟨#[]⟩, .int .i64 0, .int .i64 0]) 3 32 Try.underlying24 info_Bay rfl (by decide) _ xs.length _ rfl HB2.out.row [.string ⟨#[97]⟩, .int .i64 1, .int .i64 1] rfl (by simp [Value.oneCell']) w2.heap.size rfl rfl (by omega) (by decide) hwz ?_)
          intro a4 k4 w4 ho4 hg4 hb4 _
          have HB4 := Lib.hid (show BSt w0 w w4 p n m2 cv (xs ++ [⟨⟨#[97]⟩, 1, 1⟩]) a4 k4 from ⟨HB2.out.src.step hlt hb4, HB2.out.touch.step hb4 (Nat.le_refl _), by rw [List.length_append, List.flatMap_append]; exact ho4, fun x hx => by
            rcases List.mem_append.1 hx with hx | hx
            · exact HB2.out.sm x hx
            · rw [List.mem_singleton.1 hx]; exact ⟨by simp [ByteArray.size], by unfold smB; simp only; omega, by unfold smB; simp only; omega⟩⟩)
          clear ho4 hg4 hb4
          go_wp2
          go_ret
          exact ⟨xs ++ [⟨⟨#[97]⟩, 1, 1⟩], a4, k4, m2, by simp, HB4.out, by simp, by simp; omega, by omega, by omega⟩
        · by_cases e2 : v = 2
          · subst e2
            go_wp2_with fail
            refine (among_lit w0 p m2 cv bs [8, 9] 2 w2.heap.size w2 h0 ok HB2.out.src (by omega) rfl rfl (by simp) (by simp)).mono ?_
            rintro e u3 ⟨r, m3, rfl, rh, m30, m31, hs, ht⟩
            have hr : 1 ≤ r ∧ r ≤ 9 := by simp only [List.mem_cons, List.not_mem_nil, or_false] at rh; omega
            have hT3 := HB2.out.touch.trans ht
            have hwz := hT3.size
            have HB3 := Lib.hid (show BSt w0 w (u3.alloc (.cells #[] 79)) p n m3 cv [] (some ⟨u3.heap.size, 0, none⟩) 0 from ⟨hs.mono (belowA _ _), hT3.alloc _, owns_base (owns_empty u3 79 3 _ (Nat.le_refl _)) hwz, fun x hx => by cases hx⟩)
            clear hs ht rh hT3 HB2
            go_wp2_with fail
            go_loopw [3, 7] (fun sv jv wr => ∃ (ys : List BayD) (a : Option Addr) (c : Nat), sv = .slice a ys.length c ∧ jv = .int .i64 (ys.length : Int) ∧ (ys.length : Int) ≤ r ∧ BSt w0 w wr p n m3 cv ys a c) (fun _ jv _ => (r - intOf jv).toNat)
            case atStart => exact ⟨[], _, _, rfl, by go_num, by simp; omega, HB3.out⟩
            case round =>
              clear HB3
              obtain ⟨ys, a, c, rfl, rfl, hyr, hB⟩ := hrel
              have HB := Lib.hid hB
              have hzr := hB.touch.size
              have hwzr := hB.touch.size
              clear hB
              by_cases hl : (ys.length : Int) < r
              · have wr1 : IntKind.i64.wrap (97 + (ys.length : Int)) = 97 + (ys.length : Int) := IntWalk.i64_in _ (by omega)
                obtain ⟨b, hb⟩ := byte_of (k := 97 + (ys.length : Int)) (by omega) (by omega)
                have wr2 : IntKind.u8.wrap (97 + (ys.length : Int)) = 97 + (ys.length : Int) := by rw [← hb]; have := b.toNat_lt; simp [IntKind.wrap, IntKind.bits, IntKind.signed]; omega
                have hconv := run_convert_bytes_back (P := Try.prog) (wr.alloc (.cells #[.int .u8 (97 + (ys.length : Int))] 5)) 22 9 5 ⟨wr.heap.size, 0, none⟩ 1 [b] Try.underlying22 Try.underlying5 Try.underlying9 (fun i hi => by
                  obtain rfl : i = 0 := by simp at hi; exact hi
                  rw [Addr.add_lit]
                  simp [go_sem, hb])
                simp only [List.length_cons, List.length_nil, Nat.zero_add] at hconv
                have hs1 : ((⟨#[113]⟩ : ByteArray) ++ ⟨#[b]⟩).size = 2 := ByteArray.size_append
                have HS1 := Lib.hid hs1
                clear hb
                have HBA := Lib.hid (HB.out.mono (belowA wr (.cells #[.int .u8 (97 + (ys.length : Int))] 5)))
                go_wp2_with (at_builtin; refine append_one_at rfl _ _ 24 rfl w.heap.size 79 (.agg #[.string ⟨#[]⟩, .int .i64 0, .int .i64 0]) 3 32 Try.underlying24 info_Bay rfl (by decide) _ ys.length _ rfl HBA.out.row [.string ((⟨#[113]⟩ : ByteArray) ++ ⟨#[b]⟩), .int .i64 90000, .int .i64 90000] rfl (by simp [Value.oneCell']) (wr.heap.size + 1) (by simp) rfl (by omega) (by decide) (by simp; omega) ?_)
                intro a4 k4 w4 ho4 hg4 hb4 _
                have HB4 := Lib.hid (show BSt w0 w w4 p n m3 cv (ys ++ [⟨(⟨#[113]⟩ : ByteArray) ++ ⟨#[b]⟩, 90000, 90000⟩]) a4 k4 from ⟨HBA.out.src.step hlt hb4, HBA.out.touch.step hb4 (Nat.le_refl _), by rw [List.length_append, List.flatMap_append]; exact ho4, fun x hx => by
                  rcases List.mem_append.1 hx with hx | hx
                  · exact HBA.out.sm x hx
                  · rw [List.mem_singleton.1 hx]; exact ⟨by rw [HS1.out]; omega, by unfold smB; simp only; omega, by unfold smB; simp only; omega⟩⟩)
                clear ho4 hg4 hb4 hconv hs1
                go_wp2
                go_roundw
                case rel => exact ⟨ys ++ [⟨(⟨#[113]⟩ : ByteArray) ++ ⟨#[b]⟩, 90000, 90000⟩], a4, k4, by simp, by simp, by simp; omega, HB4.out⟩
                case measure => simp [intOf]; omega
              · have hl1 : (ys.length : Int) = r := by omega
                go_wp2
                go_ret
                exact ⟨ys, a, c, m3, rfl, HB.out, by omega, by omega, by omega, by omega⟩
          · have d0 : (v == 0) = false := by simpa using e0
            have d1 : (v == 1) = false := by simpa using e1
            have d2 : (v == 2) = false := by simpa using e2
            go_wp2
            go_ret
            exact ⟨xs, a, c, m2, rfl, HB2.out, hx1, by omega, by omega, by omega⟩

end Go.Proofs.Yteaijhmgfddjiaa
