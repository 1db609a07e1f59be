import Derived.Test.YtemmnjokojgjaaaFfZ7
import Derived.Test.YtemmnjokojgjaaaFfZ1
import Derived.Deep.QuietTactic
import Derived.BigQuiet
/- The reference's draws of a tune, a set and a shift; of a set and a note; of a tune and a rest. -/
set_option linter.unusedSimpArgs false
set_option linter.unnecessarySimpa false
set_option linter.unusedVariables false
set_option maxRecDepth 100000
namespace Go.Proofs.Ytemmnjokojgjaaa
open Go.RowKit

def Threes (w0 w : World) (p n : Nat) (cv : Value) (e : Ending) (w' : World) : Prop := ∃ (v v2 : Value) (x : TunD) (ns : List Int) (b : Int) (m : Nat), e = .returned (.tuple #[v, v2, .int .i64 b]) ∧ OwnTun w.heap.size w'.heap.size w' v x ∧ smT x ∧ OwnInts (w.heap.size + 1) w'.heap.size w' v2 ns ∧ smS ns ∧ (-30 ≤ b ∧ b ≤ 30) ∧ n ≤ m ∧ Src w0 w' p cv m ∧ Touch p (p + 1) w w'


set_option maxHeartbeats 4000000 in
theorem l26DrawThree_any (w0 : World) (p n : Nat) (cv : Value) (bs : List Int) (w : World) (h0 : Byts w0 cv bs) (ok : okByts bs) (h : Src w0 w p cv n) (hn : n ≤ 700000000) :
    Calls Try.prog 54 #[.pointer (some ⟨p, 0, none⟩)] w (Threes w0 w p n cv) := by
  have HS := Lib.hid h
  have hlt := h.lt
  have hlow := h.low
  clear h
  go_enter Try.func54, Try.ntmps54
  go_wp2_with fail
  have B0 := Lib.hid (Box.alloc w [.string ⟨#[]⟩, .slice none 0 0] 29 w.heap.size rfl)
  refine (l25Bent_any w0 p n cv bs _ h0 ok (HS.out.mono (belowA _ _)) (by omega)).mono ?_
  rintro e w1 ⟨v', x, m1, rfl, own, sm, m10, m11, hs1, ht1⟩
  obtain ⟨a, c, rfl⟩ := own.form
  have SM := Lib.hid sm
  have hz1 := ht1.size
  simp at hz1
  obtain ⟨q, hq⟩ : ∃ q, q = w1.heap.size := ⟨_, rfl⟩
  have hba := belowA w1 (.cells #[.string x.name, .slice a x.tones.length c] 29)
  have BX := Lib.hid (Box.alloc w1 [.string x.name, .slice a x.tones.length c] 29 q hq.symm)
  have B0 := Lib.hid ((B0.out.touch ht1 (.inr (by omega))).mono hba)
  have HS1 := Lib.hid (hs1.mono hba)
  have HT1 := Lib.hid ((((Touch.refl _ _ _).alloc _).trans ht1).step hba (by omega) : Touch p (p + 1) w _)
  have HOX := Lib.hid ((own.mono hba).wide (show w.heap.size + 1 ≤ _ by simp) (show w1.heap.size ≤ q by omega))
  clear own hs1 ht1 sm HS
  have hzq : (w1.alloc (.cells #[.string x.name, .slice a x.tones.length c] 29)).heap.size = q + 1 := by simp; omega
  go_wp2_with fail
  rw [← hq]
  obtain ⟨W, hW⟩ : ∃ W, W = w1.alloc (.cells #[.string x.name, .slice a x.tones.length c] 29) := ⟨_, rfl⟩
  rw [← hW] at BX B0 HS1 HT1 HOX hzq ⊢
  have hqw : w.heap.size < q := by omega
  clear hW hq hba
  refine (l26DrawSet_any w0 p m1 cv bs W h0 ok HS1.out (by omega)).mono ?_
  rintro e w2 ⟨v2, ns, m2, rfl, ons, sms, m20, m21, hs2, ht2⟩
  obtain ⟨a2, c2, rfl⟩ := ons.form
  have SMS := Lib.hid sms
  have HNS := Lib.hid ons
  have HS2 := Lib.hid hs2
  have BX := Lib.hid (BX.out.touch ht2 (.inr (by omega)))
  have B0 := Lib.hid (B0.out.touch ht2 (.inr (by omega)))
  have HOX := Lib.hid (OwnTun.touch HOX.out ht2 (.inr (by omega)))
  have HT2 := Lib.hid (HT1.out.trans ht2)
  have hz2 := ht2.size
  clear ons sms hs2 ht2 HS1 HT1
  have hton : Tons w2 (.slice a x.tones.length c) x.tones := by
    obtain ⟨lv, e, t⟩ := HOX.out.rd
    have e' : Value.slice a x.tones.length c = lv := by simpa using e
    subst e'; exact t
  have hTI : TunIn w2 q (.slice a x.tones.length c) x := ⟨BX.out.at' 0 _ rfl, BX.out.at' 1 _ rfl, hton, by have := SM.out.name; unfold maxLen; omega⟩
  clear hton
  go_wp2_with fail
  refine (l25Ok_any q _ x _ hTI).mono ?_
  rintro e w3 ⟨rfl, hb3⟩
  have BX := Lib.hid (BX.out.mono hb3)
  have B0 := Lib.hid (B0.out.mono hb3)
  have HOX := Lib.hid (HOX.out.mono hb3)
  have HNS := Lib.hid (HNS.out.mono hb3)
  have HS3 := Lib.hid (HS2.out.mono hb3)
  have HT3 := Lib.hid (HT2.out.step hb3 (by omega))
  have hz3 := hb3.size
  have hxl := SM.out.len
  clear hTI hb3 HS2 HT2
  cases hv : validTunB x
  · clear hv
    have c0 := BX.out.at' 0 _ rfl
    have c1 := BX.out.at' 1 _ rfl
    have g0 := B0.out.fr 0
    have g1 := B0.out.fr 1
    have r0 := B0.out.at' 0 _ rfl
    have r1 := B0.out.at' 1 _ rfl
    have l1 := BX.out.lt
    have l0 := B0.out.lt
    have n0 : ∀ y, (extT w3.drew p (p + 1) y).cell? ⟨q, 0, none⟩ = some (.string x.name) := fun y => (cell?_extT (w := w3.drew) (by simpa using l1) (.inr (by omega))).trans c0
    have n1 : ∀ y, (extT w3.drew p (p + 1) y).cell? ⟨q, 1, none⟩ = some (.slice a x.tones.length c) := fun y => (cell?_extT (w := w3.drew) (by simpa using l1) (.inr (by omega))).trans c1
    go_wp2_with fail
    refine wp_region_ord4 [(0, 3), (1, 1), (2, 1), (3, 4), (4, 0), (5, 1), (6, 1)] [3, 4] [4] (0) (w.heap.size + 1) (p) (p + 1) (by omega) (by kernel_rfl) (by kernel_rfl) ?_
    (repeat ((first | with_reducible refine wpOrd4_soft (fun K hK => ?_) | with_reducible refine wpOrd4_pre (fun K hK => ?_) | with_reducible refine wpOrd4_late (fun K hK => ?_)); simp only [List.getElem?_toArray, List.getElem?_cons_zero, List.getElem?_cons_succ]; first | (go_simp; refine hK _ ?_) | (simp only [undef]; go_simp; refine hK _ ?_); clear hK K))
    ((first | with_reducible refine wpOrd4_hard ?_ | with_reducible refine wpOrd4_new ?_); simp only [List.getElem?_toArray, List.getElem?_cons_zero, List.getElem?_cons_succ])
    go_wp2_with fail
    refine (l26DrawShift_any w0 p m2 cv bs w3.drew h0 ok (HS3.out.mono (Q.below ((Q.refl w3).drew) _)) (by omega)).mono ?_
    rintro e w9 ⟨b, m9, rfl, b0, b1, m90, m91, hs9, ht9⟩
    go_wp2_with fail
    refine And.intro ht9 ?_
    have ht9' : Touch p (p + 1) w3 w9 := ⟨ht9.os, ht9.tape, ht9.output, ht9.size, ht9.block⟩
    have hz9 := ht9'.size
    have BX9 := Lib.hid (BX.out.touch ht9' (.inr (by omega)))
    have B09 := Lib.hid (B0.out.touch ht9' (.inr (by omega)))
    have HNS9 := Lib.hid (OwnRow.touch HNS.out ht9' (.inr (by omega)))
    have HOX9 := Lib.hid (OwnTun.touch HOX.out ht9' (.inr (by omega)))
    have HT9 := Lib.hid (HT3.out.trans ht9')
    clear c0 c1 g0 g1 r0 r1 l0 l1
    have g0 := B09.out.fr 0
    have g1 := B09.out.fr 1
    have r0 := B09.out.at' 0 _ rfl
    have r1 := B09.out.at' 1 _ rfl
    have l0 := B09.out.lt
    (repeat ((first | with_reducible refine wpOrd4_soft (fun K hK => ?_) | with_reducible refine wpOrd4_pre (fun K hK => ?_) | with_reducible refine wpOrd4_late (fun K hK => ?_)); simp only [List.getElem?_toArray, List.getElem?_cons_zero, List.getElem?_cons_succ]; first | (go_simp; refine hK _ ?_) | (simp only [undef]; go_simp; refine hK _ ?_); clear hK K))
    ((first | with_reducible refine wpOrd4_hard ?_ | with_reducible refine wpOrd4_new ?_); simp only [List.getElem?_toArray, List.getElem?_cons_zero, List.getElem?_cons_succ])
    go_wp2_with fail
    refine And.intro ((touch_in ht9 ⟨Nat.zero_le _, by omega⟩).setCell (p := ⟨w.heap.size, 0, none⟩) (by simp) _ |>.setCell (p := ⟨w.heap.size, 1, none⟩) (by simp) _) ?_
    clear ht9 ht9' n0 n1
    have HS9 := Lib.hid hs9
    clear hs9
    (repeat ((first | with_reducible refine wpOrd4_soft (fun K hK => ?_) | with_reducible refine wpOrd4_pre (fun K hK => ?_) | with_reducible refine wpOrd4_late (fun K hK => ?_)); simp only [List.getElem?_toArray, List.getElem?_cons_zero, List.getElem?_cons_succ]; first | (go_simp; refine hK _ ?_) | (simp only [undef]; go_simp; refine hK _ ?_); clear hK K))
    (with_reducible refine wpOrd4_nil ?_); refine NoPanic.normal ?_
    go_wp2
    have t : Touch w.heap.size (w.heap.size + 1) w9 ((w9.setCell ⟨w.heap.size, 0, none⟩ (.string x.name)).setCell ⟨w.heap.size, 1, none⟩ (.slice a x.tones.length c)) := ((Touch.refl _ _ w9).setCell (p := ⟨_, 0, none⟩) (by simp) _).setCell (p := ⟨_, 1, none⟩) (by simp) _
    refine bodyPost_ret (v := .tuple #[.agg #[.string x.name, .slice a x.tones.length c], .slice a2 ns.length c2, .int .i64 b]) (by simp [results, Try.results54, go_sem, r0, r1, g0, g1, l0]) rfl ⟨_, _, x, ns, b, m9, rfl, (OwnTun.touch HOX9.out t (.inr (by omega))).wide (by omega) (by have := HOX9.out; have := B09.out.lt; have := BX9.out.lt; simp [World.setCell]; omega), SM.out, OwnInts.wide (OwnRow.touch HNS9.out t (.inr (by omega))) (by omega) (by simp [World.setCell]; omega), SMS.out, ⟨b0, b1⟩, by omega, HS9.out.touch t (.inl (by omega)) (by omega), (HT9.out.setNew (p := ⟨w.heap.size, 0, none⟩) (by simp) _).setNew (p := ⟨w.heap.size, 1, none⟩) (by simp) _⟩
  · clear hv
    go_wp2_with fail
    refine (one_any w0 p m2 cv bs 3 _ h0 ok HS3.out (by omega) (by omega) (by omega)).mono ?_
    rintro e w4 ⟨b, m4, rfl, m40, m41, hs4, ht4⟩
    have BX := Lib.hid (BX.out.touch ht4 (.inr (by omega)))
    have B0 := Lib.hid (B0.out.touch ht4 (.inr (by omega)))
    have HOX := Lib.hid (OwnTun.touch HOX.out ht4 (.inr (by omega)))
    have HNS := Lib.hid (OwnRow.touch HNS.out ht4 (.inr (by omega)))
    have HT4 := Lib.hid (HT3.out.trans ht4)
    have HS4 := Lib.hid hs4
    have hz4 := ht4.size
    clear hs4 ht4 HS3 HT3
    cases b
    · skip
      have c0 := BX.out.at' 0 _ rfl
      have c1 := BX.out.at' 1 _ rfl
      have g0 := B0.out.fr 0
      have g1 := B0.out.fr 1
      have r0 := B0.out.at' 0 _ rfl
      have r1 := B0.out.at' 1 _ rfl
      have l1 := BX.out.lt
      have l0 := B0.out.lt
      have n0 : ∀ y, (extT w4.drew p (p + 1) y).cell? ⟨q, 0, none⟩ = some (.string x.name) := fun y => (cell?_extT (w := w4.drew) (by simpa using l1) (.inr (by omega))).trans c0
      have n1 : ∀ y, (extT w4.drew p (p + 1) y).cell? ⟨q, 1, none⟩ = some (.slice a x.tones.length c) := fun y => (cell?_extT (w := w4.drew) (by simpa using l1) (.inr (by omega))).trans c1
      go_wp2_with fail
      refine wp_region_ord4 [(0, 3), (1, 1), (2, 1), (3, 4), (4, 0), (5, 1), (6, 1)] [3, 4] [4] (0) (w.heap.size + 1) (p) (p + 1) (by omega) (by kernel_rfl) (by kernel_rfl) ?_
      (repeat ((first | with_reducible refine wpOrd4_soft (fun K hK => ?_) | with_reducible refine wpOrd4_pre (fun K hK => ?_) | with_reducible refine wpOrd4_late (fun K hK => ?_)); simp only [List.getElem?_toArray, List.getElem?_cons_zero, List.getElem?_cons_succ]; first | (go_simp; refine hK _ ?_) | (simp only [undef]; go_simp; refine hK _ ?_); clear hK K))
      ((first | with_reducible refine wpOrd4_hard ?_ | with_reducible refine wpOrd4_new ?_); simp only [List.getElem?_toArray, List.getElem?_cons_zero, List.getElem?_cons_succ])
      go_wp2_with fail
      refine (l26DrawShift_any w0 p m4 cv bs w4.drew h0 ok (HS4.out.mono (Q.below ((Q.refl w4).drew) _)) (by omega)).mono ?_
      rintro e w9 ⟨b, m9, rfl, b0, b1, m90, m91, hs9, ht9⟩
      go_wp2_with fail
      refine And.intro ht9 ?_
      have ht9' : Touch p (p + 1) w4 w9 := ⟨ht9.os, ht9.tape, ht9.output, ht9.size, ht9.block⟩
      have hz9 := ht9'.size
      have BX9 := Lib.hid (BX.out.touch ht9' (.inr (by omega)))
      have B09 := Lib.hid (B0.out.touch ht9' (.inr (by omega)))
      have HNS9 := Lib.hid (OwnRow.touch HNS.out ht9' (.inr (by omega)))
      have HOX9 := Lib.hid (OwnTun.touch HOX.out ht9' (.inr (by omega)))
      have HT9 := Lib.hid (HT4.out.trans ht9')
      clear c0 c1 g0 g1 r0 r1 l0 l1
      have g0 := B09.out.fr 0
      have g1 := B09.out.fr 1
      have r0 := B09.out.at' 0 _ rfl
      have r1 := B09.out.at' 1 _ rfl
      have l0 := B09.out.lt
      (repeat ((first | with_reducible refine wpOrd4_soft (fun K hK => ?_) | with_reducible refine wpOrd4_pre (fun K hK => ?_) | with_reducible refine wpOrd4_late (fun K hK => ?_)); simp only [List.getElem?_toArray, List.getElem?_cons_zero, List.getElem?_cons_succ]; first | (go_simp; refine hK _ ?_) | (simp only [undef]; go_simp; refine hK _ ?_); clear hK K))
      ((first | with_reducible refine wpOrd4_hard ?_ | with_reducible refine wpOrd4_new ?_); simp only [List.getElem?_toArray, List.getElem?_cons_zero, List.getElem?_cons_succ])
      go_wp2_with fail
      refine And.intro ((touch_in ht9 ⟨Nat.zero_le _, by omega⟩).setCell (p := ⟨w.heap.size, 0, none⟩) (by simp) _ |>.setCell (p := ⟨w.heap.size, 1, none⟩) (by simp) _) ?_
      clear ht9 ht9' n0 n1
      have HS9 := Lib.hid hs9
      clear hs9
      (repeat ((first | with_reducible refine wpOrd4_soft (fun K hK => ?_) | with_reducible refine wpOrd4_pre (fun K hK => ?_) | with_reducible refine wpOrd4_late (fun K hK => ?_)); simp only [List.getElem?_toArray, List.getElem?_cons_zero, List.getElem?_cons_succ]; first | (go_simp; refine hK _ ?_) | (simp only [undef]; go_simp; refine hK _ ?_); clear hK K))
      (with_reducible refine wpOrd4_nil ?_); refine NoPanic.normal ?_
      go_wp2
      have t : Touch w.heap.size (w.heap.size + 1) w9 ((w9.setCell ⟨w.heap.size, 0, none⟩ (.string x.name)).setCell ⟨w.heap.size, 1, none⟩ (.slice a x.tones.length c)) := ((Touch.refl _ _ w9).setCell (p := ⟨_, 0, none⟩) (by simp) _).setCell (p := ⟨_, 1, none⟩) (by simp) _
      refine bodyPost_ret (v := .tuple #[.agg #[.string x.name, .slice a x.tones.length c], .slice a2 ns.length c2, .int .i64 b]) (by simp [results, Try.results54, go_sem, r0, r1, g0, g1, l0]) rfl ⟨_, _, x, ns, b, m9, rfl, (OwnTun.touch HOX9.out t (.inr (by omega))).wide (by omega) (by have := HOX9.out; have := B09.out.lt; have := BX9.out.lt; simp [World.setCell]; omega), SM.out, OwnInts.wide (OwnRow.touch HNS9.out t (.inr (by omega))) (by omega) (by simp [World.setCell]; omega), SMS.out, ⟨b0, b1⟩, by omega, HS9.out.touch t (.inl (by omega)) (by omega), (HT9.out.setNew (p := ⟨w.heap.size, 0, none⟩) (by simp) _).setNew (p := ⟨w.heap.size, 1, none⟩) (by simp) _⟩
    · have hz44 : q + 1 ≤ w4.heap.size := by omega
      have BX1 := Lib.hid (BX.out.mono (belowA w4 (.cells #[] 2)))
      have B01 := Lib.hid (B0.out.mono (belowA w4 (.cells #[] 2)))
      have HOX1 := Lib.hid (HOX.out.mono (belowA w4 (.cells #[] 2)))
      have HT5 := Lib.hid (HT4.out.step (belowA w4 (.cells #[] 2)) (by omega))
      have HS5 := Lib.hid (HS4.out.mono (belowA w4 (.cells #[] 2)))
      have HE5 := Lib.hid (show OwnInts (q + 1) (w4.alloc (.cells #[] 2)).heap.size (w4.alloc (.cells #[] 2)) (.slice (some ⟨w4.heap.size, 0, none⟩) 0 0) [] from OwnRow.mk' (owns_base (owns_empty w4 2 1 w4.heap.size (Nat.le_refl _)) hz44))
      clear BX B0 HOX HNS HT4 HS4
      go_wp2_with fail
      go_loopw [6, 7] (fun o iv wr => ∃ (i m : Nat) (ys : List Int) (a' : Option Addr) (c' : Nat), o = .slice a' ys.length c' ∧ iv = .int .i64 (i : Int) ∧ i ≤ x.tones.length ∧ smS ys ∧ ys.length ≤ i ∧ n ≤ m ∧ m ≤ m4 + 4 * i ∧ Src w0 wr p cv m ∧ Touch p (p + 1) w wr ∧ Box wr q [.string x.name, .slice a x.tones.length c] ∧ Box wr w.heap.size [.string ⟨#[]⟩, .slice none 0 0] ∧ OwnTun (w.heap.size + 1) q wr (.agg #[.string x.name, .slice a x.tones.length c]) x ∧ OwnInts (q + 1) wr.heap.size wr (.slice a' ys.length c') ys) (fun _ iv _ => x.tones.length - (intOf iv).toNat)
      case atStart => exact ⟨0, m4, [], _, _, rfl, by go_num, Nat.zero_le _, smS_nil, Nat.le_refl _, by omega, by omega, HS5.out, HT5.out, BX1.out, B01.out, HOX1.out, HE5.out⟩
      case round =>
        clear BX1 B01 HOX1 HE5 HT5 HS5
        obtain ⟨i, m, ys, a', c', rfl, rfl, hi, smy, hyi, hm0, hm1, hs, ht, bx, b0, hox, hoy⟩ := hrel
        have HS := Lib.hid hs; have HT := Lib.hid ht; have BX := Lib.hid bx; have B0 := Lib.hid b0; have HOX := Lib.hid hox; have HOY := Lib.hid hoy; have SMY := Lib.hid smy
        have hzr : q < wr.heap.size := bx.lt
        have c1 := bx.at' 1 _ rfl
        clear hs ht bx b0 hox hoy smy
        by_cases hlt : i < x.tones.length
        · go_wp2_with fail
          refine (one_any w0 p m cv bs 5 _ h0 ok HS.out (by omega) (by omega) (by omega)).mono ?_
          rintro e w5 ⟨b, m5, rfl, m50, m51, hs5, ht5⟩
          have BX := Lib.hid (BX.out.touch ht5 (.inr (by omega)))
          have B0 := Lib.hid (B0.out.touch ht5 (.inr (by omega)))
          have HOX := Lib.hid (OwnTun.touch HOX.out ht5 (.inr (by omega)))
          have HOY := Lib.hid (OwnRow.touch HOY.out ht5 (.inr (by omega)))
          have HT5 := Lib.hid (HT.out.trans ht5)
          have HS5 := Lib.hid hs5
          have hz5 := ht5.size
          clear hs5 ht5 HS HT c1
          cases b
          · obtain ⟨lv, elv, tx⟩ := HOX.out.rd
            have elv' : Value.slice a x.tones.length c = lv := by simpa using elv
            subst elv'
            obtain ⟨b1, o1, rfl, hTn⟩ := TonIn.of tx hlt
            obtain ⟨t1, t0, _, _⟩ := hTn
            have hb1q : b1 < q ∧ p < b1 := by
              obtain ⟨lv, e, ho⟩ := HOX.out
              have e' : Value.slice (some ⟨b1, o1, none⟩) x.tones.length c = lv := by simpa using e
              subst e'
              have h1 := ho.1.2
              rcases h1 with ⟨e2, _⟩ | ⟨g, cap, cur, e2, _⟩
              · cases e2
              · simp only [Value.slice.injEq, Option.some.injEq, Addr.mk.injEq] at e2
                obtain ⟨⟨rfl, rfl, _⟩, _, _⟩ := e2
                have h2 := (ho.1.lt b1 rfl).1
                have h3 := ho.2 b1 rfl
                omega
            have c1 := BX.out.at' 1 _ rfl
            have l1 := BX.out.lt
            have hsm := SM.out.tones _ (List.getElem_mem hlt)
            have hnb := hsm.1
            have n1 : ∀ y, (extT w5.drew p (p + 1) y).cell? ⟨q, 1, none⟩ = some (.slice (some ⟨b1, o1, none⟩) x.tones.length c) := fun y => (cell?_extT (w := w5.drew) (by simpa using l1) (.inr (by omega))).trans c1
            have n2 : ∀ y, (extT w5.drew p (p + 1) y).cell? ⟨b1, o1 + i * 3, none⟩ = some (.int .i64 x.tones[i].note) := fun y => (cell?_extT (w := w5.drew) (by simpa using t1) (.inr (by omega))).trans t0
            clear tx elv hsm
            go_wp2_with fail
            refine wp_region_ord3 [(0, 1), (1, 1), (2, 1), (3, 1), (4, 1), (5, 1), (6, 1), (7, 1), (8, 0), (9, 1), (10, 1), (11, 1), (12, 0), (13, 1)] [8, 12] [8, 12] (p) (p + 1) (by kernel_rfl) (by kernel_rfl) ?_
            (repeat ((first | with_reducible refine wpOrd3_soft (fun K hK => ?_) | with_reducible refine wpOrd3_pre (fun K hK => ?_) | with_reducible refine wpOrd3_late (fun K hK => ?_)); simp only [List.getElem?_toArray, List.getElem?_cons_zero, List.getElem?_cons_succ]; first | (go_simp; refine hK _ ?_) | (simp only [undef]; go_simp; refine hK _ ?_); clear hK K))
            ((first | with_reducible refine wpOrd3_hard ?_ | with_reducible refine wpOrd3_new ?_); simp only [List.getElem?_toArray, List.getElem?_cons_zero, List.getElem?_cons_succ])
            go_wp2_with fail
            refine (pick_any w0 p m5 cv bs 3 _ h0 ok (HS5.out.mono (Q.below ((Q.refl w5).drew) _)) (by omega) (by omega) (by omega)).mono ?_
            rintro e w6 ⟨r, m6, rfl, r0, r1, m60, m61, hs6, ht6⟩
            have u1 : IntKind.i64.wrap (r - 1) = r - 1 := IntWalk.i64_in _ (by omega)
            have u2 : IntKind.i64.wrap (12 * (r - 1)) = 12 * (r - 1) := IntWalk.i64_in _ (by omega)
            have u3 : IntKind.i64.wrap (x.tones[i].note + 12 * (r - 1)) = x.tones[i].note + 12 * (r - 1) := IntWalk.i64_in _ (by omega)
            have ht6' : Touch p (p + 1) w5 w6 := ⟨ht6.os, ht6.tape, ht6.output, ht6.size, ht6.block⟩
            have BX6 := Lib.hid (BX.out.touch ht6' (.inr (by omega)))
            have B06 := Lib.hid (B0.out.touch ht6' (.inr (by omega)))
            have HOX6 := Lib.hid (OwnTun.touch HOX.out ht6' (.inr (by omega)))
            have HOY6 := Lib.hid (OwnRow.touch HOY.out ht6' (.inr (by omega)))
            have HT6 := Lib.hid (HT5.out.trans ht6')
            have HS6 := Lib.hid hs6
            have hz6 := ht6'.size
            clear hs6 ht6'
            go_wp2_with fail
            refine And.intro ht6 ?_
            (repeat ((first | with_reducible refine wpOrd3_soft (fun K hK => ?_) | with_reducible refine wpOrd3_pre (fun K hK => ?_) | with_reducible refine wpOrd3_late (fun K hK => ?_)); simp only [List.getElem?_toArray, List.getElem?_cons_zero, List.getElem?_cons_succ]; first | (go_simp; refine hK _ ?_) | (simp only [undef]; go_simp; refine hK _ ?_); clear hK K))
            ((first | with_reducible refine wpOrd3_hard ?_ | with_reducible refine wpOrd3_new ?_); simp only [List.getElem?_toArray, List.getElem?_cons_zero, List.getElem?_cons_succ])
            go_wp2_with fail
            refine (l00Put_any _ ys (x.tones[i].note + 12 * (r - 1)) _ (OwnInts.rd HOY6.out) (by omega)).mono ?_
            rintro e w7 ⟨v7, rfl, ho7, hb7⟩
            obtain ⟨a7, c7, rfl⟩ := owns_slice ho7
            have hb67 := hb7
            have HOY7 := Lib.hid ((OwnRow.mk' ho7).wide (show q + 1 ≤ _ by omega) (Nat.le_refl _))
            have BX7 := Lib.hid (BX6.out.mono hb67)
            have B07 := Lib.hid (B06.out.mono hb67)
            have HOX7 := Lib.hid (HOX6.out.mono hb67)
            have HT7 := Lib.hid (HT6.out.step hb67 (by omega))
            have HS7 := Lib.hid (HS6.out.mono hb67)
            have hpl := putI_len ys (x.tones[i].note + 12 * (r - 1))
            have SMY7 := Lib.hid (smS_put (n := x.tones[i].note + 12 * (r - 1)) SMY.out (by omega) (by omega) (by omega))
            go_wp2_with fail
            refine And.intro (ht6.step hb67 (show w5.drew.heap.size ≤ w6.heap.size from hz6)) ?_
            clear ho7 hb7 hb67 ht6 n1 n2
            (repeat ((first | with_reducible refine wpOrd3_soft (fun K hK => ?_) | with_reducible refine wpOrd3_pre (fun K hK => ?_) | with_reducible refine wpOrd3_late (fun K hK => ?_)); simp only [List.getElem?_toArray, List.getElem?_cons_zero, List.getElem?_cons_succ]; first | (go_simp; refine hK _ ?_) | (simp only [undef]; go_simp; refine hK _ ?_); clear hK K))
            (with_reducible refine wpOrd3_nil ?_); refine NoPanic.normal ?_
            go_wp2
            go_roundw
            case rel => exact ⟨i + 1, m6, putI ys (x.tones[i].note + 12 * (r - 1)), a7, c7, rfl, by go_num, by omega, SMY7.out, by omega, by omega, by omega, HS7.out, HT7.out, BX7.out, B07.out, HOX7.out, HOY7.out⟩
            case measure => simp [intOf] <;> omega
          · go_wp2
            go_roundw
            case rel => exact ⟨i + 1, m5, ys, a', c', rfl, by go_num, by omega, SMY.out, by omega, by omega, by omega, HS5.out, HT5.out, BX.out, B0.out, HOX.out, OwnInts.wide HOY.out (Nat.le_refl _) hz5⟩
            case measure => simp [intOf] <;> omega
        · obtain rfl : i = x.tones.length := by omega
          clear c1
          have hmN : m ≤ n + 1000 := by omega
          obtain ⟨w10, rfl⟩ : ∃ w10, w10 = wr := ⟨_, rfl⟩
          have c0 := BX.out.at' 0 _ rfl
          have c1 := BX.out.at' 1 _ rfl
          have g0 := B0.out.fr 0
          have g1 := B0.out.fr 1
          have r0 := B0.out.at' 0 _ rfl
          have r1 := B0.out.at' 1 _ rfl
          have l1 := BX.out.lt
          have l0 := B0.out.lt
          have n0 : ∀ y, (extT w10.drew p (p + 1) y).cell? ⟨q, 0, none⟩ = some (.string x.name) := fun y => (cell?_extT (w := w10.drew) (by simpa using l1) (.inr (by omega))).trans c0
          have n1 : ∀ y, (extT w10.drew p (p + 1) y).cell? ⟨q, 1, none⟩ = some (.slice a x.tones.length c) := fun y => (cell?_extT (w := w10.drew) (by simpa using l1) (.inr (by omega))).trans c1
          go_wp2_with fail
          refine wp_region_ord4 [(0, 3), (1, 1), (2, 1), (3, 4), (4, 0), (5, 1), (6, 1)] [3, 4] [4] (0) (w.heap.size + 1) (p) (p + 1) (by omega) (by kernel_rfl) (by kernel_rfl) ?_
          (repeat ((first | with_reducible refine wpOrd4_soft (fun K hK => ?_) | with_reducible refine wpOrd4_pre (fun K hK => ?_) | with_reducible refine wpOrd4_late (fun K hK => ?_)); simp only [List.getElem?_toArray, List.getElem?_cons_zero, List.getElem?_cons_succ]; first | (go_simp; refine hK _ ?_) | (simp only [undef]; go_simp; refine hK _ ?_); clear hK K))
          ((first | with_reducible refine wpOrd4_hard ?_ | with_reducible refine wpOrd4_new ?_); simp only [List.getElem?_toArray, List.getElem?_cons_zero, List.getElem?_cons_succ])
          go_wp2_with fail
          refine (l26DrawShift_any w0 p m cv bs w10.drew h0 ok (HS.out.mono (Q.below ((Q.refl w10).drew) _)) (by omega)).mono ?_
          rintro e w9 ⟨b, m9, rfl, b0, b1, m90, m91, hs9, ht9⟩
          go_wp2_with fail
          refine And.intro ht9 ?_
          have ht9' : Touch p (p + 1) w10 w9 := ⟨ht9.os, ht9.tape, ht9.output, ht9.size, ht9.block⟩
          have hz9 := ht9'.size
          have BX9 := Lib.hid (BX.out.touch ht9' (.inr (by omega)))
          have B09 := Lib.hid (B0.out.touch ht9' (.inr (by omega)))
          have HNS9 := Lib.hid (OwnRow.touch HOY.out ht9' (.inr (by omega)))
          have HOX9 := Lib.hid (OwnTun.touch HOX.out ht9' (.inr (by omega)))
          have HT9 := Lib.hid (HT.out.trans ht9')
          clear c0 c1 g0 g1 r0 r1 l0 l1
          have g0 := B09.out.fr 0
          have g1 := B09.out.fr 1
          have r0 := B09.out.at' 0 _ rfl
          have r1 := B09.out.at' 1 _ rfl
          have l0 := B09.out.lt
          (repeat ((first | with_reducible refine wpOrd4_soft (fun K hK => ?_) | with_reducible refine wpOrd4_pre (fun K hK => ?_) | with_reducible refine wpOrd4_late (fun K hK => ?_)); simp only [List.getElem?_toArray, List.getElem?_cons_zero, List.getElem?_cons_succ]; first | (go_simp; refine hK _ ?_) | (simp only [undef]; go_simp; refine hK _ ?_); clear hK K))
          ((first | with_reducible refine wpOrd4_hard ?_ | with_reducible refine wpOrd4_new ?_); simp only [List.getElem?_toArray, List.getElem?_cons_zero, List.getElem?_cons_succ])
          go_wp2_with fail
          refine And.intro ((touch_in ht9 ⟨Nat.zero_le _, by omega⟩).setCell (p := ⟨w.heap.size, 0, none⟩) (by simp) _ |>.setCell (p := ⟨w.heap.size, 1, none⟩) (by simp) _) ?_
          clear ht9 ht9' n0 n1
          have HS9 := Lib.hid hs9
          clear hs9
          (repeat ((first | with_reducible refine wpOrd4_soft (fun K hK => ?_) | with_reducible refine wpOrd4_pre (fun K hK => ?_) | with_reducible refine wpOrd4_late (fun K hK => ?_)); simp only [List.getElem?_toArray, List.getElem?_cons_zero, List.getElem?_cons_succ]; first | (go_simp; refine hK _ ?_) | (simp only [undef]; go_simp; refine hK _ ?_); clear hK K))
          (with_reducible refine wpOrd4_nil ?_); refine NoPanic.normal ?_
          go_wp2
          have t : Touch w.heap.size (w.heap.size + 1) w9 ((w9.setCell ⟨w.heap.size, 0, none⟩ (.string x.name)).setCell ⟨w.heap.size, 1, none⟩ (.slice a x.tones.length c)) := ((Touch.refl _ _ w9).setCell (p := ⟨_, 0, none⟩) (by simp) _).setCell (p := ⟨_, 1, none⟩) (by simp) _
          refine bodyPost_ret (v := .tuple #[.agg #[.string x.name, .slice a x.tones.length c], .slice a' ys.length c', .int .i64 b]) (by simp [results, Try.results54, go_sem, r0, r1, g0, g1, l0]) rfl ⟨_, _, x, ys, b, m9, rfl, (OwnTun.touch HOX9.out t (.inr (by omega))).wide (by omega) (by have := HOX9.out; have := B09.out.lt; have := BX9.out.lt; simp [World.setCell]; omega), SM.out, OwnInts.wide (OwnRow.touch HNS9.out t (.inr (by omega))) (by omega) (by simp [World.setCell]; omega), SMY.out, ⟨b0, b1⟩, by omega, HS9.out.touch t (.inl (by omega)) (by omega), (HT9.out.setNew (p := ⟨w.heap.size, 0, none⟩) (by simp) _).setNew (p := ⟨w.heap.size, 1, none⟩) (by simp) _⟩

def ThreesB (w : World) (e : Ending) (w' : World) : Prop := ∃ (v v2 : Value) (x : TunD) (ns : List Int) (b : Int), e = .returned (.tuple #[v, v2, .int .i64 b]) ∧ OwnTun w.heap.size w'.heap.size w' v x ∧ smT x ∧ OwnInts w.heap.size w'.heap.size w' v2 ns ∧ smS ns ∧ (-30 ≤ b ∧ b ≤ 30) ∧ Below w.heap.size w w'
set_option maxHeartbeats 1000000 in
theorem DrawArrangeTune_any (w : World) (v0 : Value) (x0 : List Int) (h0 : Byts w v0 x0) (o0 : okByts x0) :
    Calls Try.prog 23 #[v0] w (ThreesB w) := by
  obtain ⟨a0, ca, rfl, _, _, _⟩ := id h0
  have B0 := Lib.hid (Box.alloc w [.string ⟨#[]⟩, .slice none 0 0] 29 w.heap.size rfl)
  have hba := belowA w (.cells #[.string ⟨#[]⟩, .slice none 0 0] 29)
  go_enter Try.func23, Try.ntmps23
  go_wp2_with fail
  obtain ⟨W, hW⟩ : ∃ W, W = w.alloc (.cells #[.string ⟨#[]⟩, .slice none 0 0] 29) := ⟨_, rfl⟩
  have HWZ := Lib.hid (show W.heap.size = w.heap.size + 1 by rw [hW]; simp)
  rw [← hW] at B0 hba ⊢
  clear hW
  refine (l00From_any a0 x0.length ca _).mono ?_
  rintro e w2 ⟨rfl, hs, hz2⟩
  have HZ2 := Lib.hid hz2
  have hb := hs.below
  obtain ⟨p, hp⟩ : ∃ p, p = W.heap.size := ⟨_, rfl⟩
  have HP := Lib.hid hp
  rw [← hp] at hs ⊢
  have HS := Lib.hid hs
  have B0 := Lib.hid (B0.out.mono hb)
  have HB := Lib.hid (hba.trans (hb.mono (by have := HWZ.out; omega)))
  have HBA := Lib.hid hba
  clear hs hb hz2 hp hba
  go_wp2_with fail
  refine (l26DrawThree_any W p 0 (.slice a0 x0.length ca) x0 w2 (Byts.mono h0 HBA.out) o0 HS.out (by omega)).mono ?_
  rintro e w3 ⟨v, v2, x, ns, b, m, rfl, own, sm, hns, sms, hb2, _, _, ht⟩
  obtain ⟨a1, c1, rfl⟩ := own.form
  obtain ⟨a2, c2, rfl⟩ := hns.form
  have hpw : w.heap.size < p := by have := HP.out; have := HWZ.out; omega
  have hp2 : p < w2.heap.size := by have := HP.out; have := HZ2.out; omega
  have B0 := Lib.hid (B0.out.touch ht (.inl hpw))
  have r0 := B0.out.at' 0 _ rfl
  have r1 := B0.out.at' 1 _ rfl
  have f0 := B0.out.fr 0
  have f1 := B0.out.fr 1
  have l1 := B0.out.lt
  have HB3 := Lib.hid (ht.below HB.out (by omega) (by omega))
  have HO := Lib.hid own; have SM := Lib.hid sm; have HNS := Lib.hid hns; have SMS := Lib.hid sms; have HB2 := Lib.hid hb2
  have hz3 := ht.size
  have t : Touch w.heap.size (w.heap.size + 1) w3 ((w3.setCell ⟨w.heap.size, 0, none⟩ (.string x.name)).setCell ⟨w.heap.size, 1, none⟩ (.slice a1 x.tones.length c1)) := ((Touch.refl _ _ w3).setCell (p := ⟨_, 0, none⟩) (by simp) _).setCell (p := ⟨_, 1, none⟩) (by simp) _
  have HT := Lib.hid t
  clear own sm hns sms ht hb2 t
  go_wp2
  refine bodyPost_ret (v := .tuple #[.agg #[.string x.name, .slice a1 x.tones.length c1], .slice a2 ns.length c2, .int .i64 b]) (by simp [results, Try.results23, go_sem, r0, r1, f0, f1, l1]) rfl ⟨_, _, x, ns, b, rfl, (OwnTun.touch HO.out HT.out (.inr (by omega))).wide (by omega) (by simp [World.setCell]), SM.out, OwnInts.wide (OwnRow.touch HNS.out HT.out (.inr (by have := HP.out; have := HZ2.out; omega))) (by omega) (by simp [World.setCell]), SMS.out, HB2.out, HT.out.below HB3.out (Nat.le_refl _) (by omega)⟩

def TwosB (w : World) (e : Ending) (w' : World) : Prop := ∃ (v v2 : Value) (x : TunD) (ns : List Int), e = .returned (.tuple #[v, v2]) ∧ OwnTun w.heap.size w'.heap.size w' v x ∧ smT x ∧ OwnInts w.heap.size w'.heap.size w' v2 ns ∧ smS ns ∧ Below w.heap.size w w'
set_option maxHeartbeats 1000000 in
theorem DrawBestShift_any (w : World) (v0 : Value) (x0 : List Int) (h0 : Byts w v0 x0) (o0 : okByts x0) :
    Calls Try.prog 29 #[v0] w (TwosB w) := by
  obtain ⟨a0, ca, rfl, _, _, _⟩ := id h0
  have B0 := Lib.hid (Box.alloc w [.string ⟨#[]⟩, .slice none 0 0] 29 w.heap.size rfl)
  have hba := belowA w (.cells #[.string ⟨#[]⟩, .slice none 0 0] 29)
  go_enter Try.func29, Try.ntmps29
  go_wp2_with fail
  obtain ⟨W, hW⟩ : ∃ W, W = w.alloc (.cells #[.string ⟨#[]⟩, .slice none 0 0] 29) := ⟨_, rfl⟩
  have HWZ := Lib.hid (show W.heap.size = w.heap.size + 1 by rw [hW]; simp)
  rw [← hW] at B0 hba ⊢
  clear hW
  refine (l00From_any a0 x0.length ca _).mono ?_
  rintro e w2 ⟨rfl, hs, hz2⟩
  have HZ2 := Lib.hid hz2
  have hb := hs.below
  obtain ⟨p, hp⟩ : ∃ p, p = W.heap.size := ⟨_, rfl⟩
  have HP := Lib.hid hp
  rw [← hp] at hs ⊢
  have HS := Lib.hid hs
  have B0 := Lib.hid (B0.out.mono hb)
  have HB := Lib.hid (hba.trans (hb.mono (by have := HWZ.out; omega)))
  have HBA := Lib.hid hba
  clear hs hb hz2 hp hba
  go_wp2_with fail
  refine (l26DrawThree_any W p 0 (.slice a0 x0.length ca) x0 w2 (Byts.mono h0 HBA.out) o0 HS.out (by omega)).mono ?_
  rintro e w3 ⟨v, v2, x, ns, b, m, rfl, own, sm, hns, sms, hb2, _, _, ht⟩
  obtain ⟨a1, c1, rfl⟩ := own.form
  obtain ⟨a2, c2, rfl⟩ := hns.form
  have hpw : w.heap.size < p := by have := HP.out; have := HWZ.out; omega
  have hp2 : p < w2.heap.size := by have := HP.out; have := HZ2.out; omega
  have hz3 := ht.size
  have hqb : w.heap.size < w3.heap.size := by omega
  have B0 := Lib.hid (B0.out.touch ht (.inl hpw))
  have HB3 := Lib.hid (ht.below HB.out (by omega) (by omega))
  have HO := Lib.hid own; have SM := Lib.hid sm; have HNS := Lib.hid hns; have SMS := Lib.hid sms
  have r0 := B0.out.at' 0 _ rfl
  have r1 := B0.out.at' 1 _ rfl
  have f0 := B0.out.fr 0
  have f1 := B0.out.fr 1
  have l1 := B0.out.lt
  obtain ⟨W3, hW3⟩ : ∃ W3, W3 = (w3.setCell ⟨w.heap.size, 0, none⟩ (.string x.name)).setCell ⟨w.heap.size, 1, none⟩ (.slice a1 x.tones.length c1) := ⟨_, rfl⟩
  have HT := Lib.hid (show Touch w.heap.size (w.heap.size + 1) w3 W3 by rw [hW3]; exact ((Touch.refl _ _ w3).setCell (p := ⟨_, 0, none⟩) (by simp) _).setCell (p := ⟨_, 1, none⟩) (by simp) _)
  have HW3 := Lib.hid (show W3.heap.size = w3.heap.size by rw [hW3]; simp [World.setCell])
  have hba := belowA W3 (.cells #[.string x.name, .slice a1 x.tones.length c1] 29)
  have HBA3 := Lib.hid hba
  have HWE := Lib.hid hW3
  have HP3 := Lib.hid (show w.heap.size + 1 ≤ W.heap.size by have := HP.out; have := HZ2.out; omega)
  clear own sm hns sms ht hba hW3
  go_wp2
  rw [← HWE.out]
  refine bodyPost_ret (v := .tuple #[.agg #[.string x.name, .slice a1 x.tones.length c1], .slice a2 ns.length c2]) (by simp [results, Try.results29, go_sem, HWE.out, r0, r1, f0, f1, l1]) rfl ⟨_, _, x, ns, rfl, ((OwnTun.touch HO.out HT.out (.inr (by omega))).mono HBA3.out).wide (by omega) (by have := HW3.out; simp; omega), SM.out, OwnInts.wide (OwnInts.mono (OwnRow.touch HNS.out HT.out (.inr (by omega))) HBA3.out) (by omega) (by have := HW3.out; simp; omega), SMS.out, (HT.out.below HB3.out (Nat.le_refl _) (by omega)).trans (HBA3.out.mono (by have := HW3.out; omega))⟩

theorem DrawPlaceNote_any (w : World) (v0 : Value) (x0 : List Int) (h0 : Byts w v0 x0) (o0 : okByts x0) :
    Calls Try.prog 26 #[v0] w fun e w' => ∃ (v : Value) (ns : List Int) (b : Int), e = .returned (.tuple #[v, .int .i64 b]) ∧ OwnInts w.heap.size w'.heap.size w' v ns ∧ smS ns ∧ (-30 ≤ b ∧ b ≤ 200) ∧ Below w.heap.size w w' := by
  obtain ⟨a0, ca, rfl, _, _, _⟩ := id h0
  go_enter Try.func26, Try.ntmps26
  go_wp2_with fail
  refine (l00From_any a0 x0.length ca _).mono ?_
  rintro e w2 ⟨rfl, hs, hz2⟩
  have HZ2 := Lib.hid hz2
  have HB := Lib.hid hs.below
  have HS := Lib.hid hs
  clear hs hz2
  go_wp2_with fail
  refine (l26DrawSet_any w w.heap.size 0 (.slice a0 x0.length ca) x0 w2 h0 o0 HS.out (by omega)).mono ?_
  rintro e w3 ⟨v, ns, m, rfl, own, sms, _, hm, hs, ht⟩
  obtain ⟨a2, c2, rfl⟩ := own.form
  have HO := Lib.hid own; have SMS := Lib.hid sms; have HS := Lib.hid hs
  have hw2 : w.heap.size < w2.heap.size := by have := HZ2.out; omega
  have HB3 := Lib.hid (ht.below HB.out (Nat.le_refl _) (by omega))
  have hz3 := ht.size
  clear own sms hs ht
  go_wp2_with fail
  refine (pick_any w w.heap.size m (.slice a0 x0.length ca) x0 60 _ h0 o0 HS.out (by omega) (by omega) (by omega)).mono ?_
  rintro e w4 ⟨r, m4, rfl, r0, r1, m40, m41, hs4, ht4⟩
  have wr : IntKind.i64.wrap (40 + r) = 40 + r := IntWalk.i64_in _ (by omega)
  have HO4 := Lib.hid (OwnInts.touch HO.out ht4 (.inr (by omega)))
  have HB4 := Lib.hid (ht4.below HB3.out (Nat.le_refl _) (by omega))
  have HS4 := Lib.hid hs4
  have hz4 := ht4.size
  clear hs4 ht4 HO HB3 HS HB
  go_wp2_with fail
  refine (one_any w w.heap.size m4 (.slice a0 x0.length ca) x0 8 _ h0 o0 HS4.out (by omega) (by omega) (by omega)).mono ?_
  rintro e w5 ⟨b, m5, rfl, m50, m51, hs5, ht5⟩
  have HO5 := Lib.hid (OwnInts.touch HO4.out ht5 (.inr (by omega)))
  have HB5 := Lib.hid (ht5.below HB4.out (Nat.le_refl _) (by omega))
  have HS5 := Lib.hid hs5
  have hz5 := ht5.size
  clear hs5 ht5 HO4 HB4 HS4
  cases b
  · go_wp2
    go_ret2
    exact ⟨_, ns, 40 + r, rfl, OwnInts.wide HO5.out (by omega) (by omega), SMS.out, ⟨by omega, by omega⟩, HB5.out⟩
  · go_wp2_with fail
    refine (among_lit w w.heap.size m5 (.slice a0 x0.length ca) x0 [-24, -25, 151, 152, 0, 127] 6 w5.heap.size w5 h0 o0 HS5.out (by omega) rfl rfl (by simp) (by simp)).mono ?_
    rintro e w6 ⟨u, m6, rfl, hv, m60, m61, hs6, ht6⟩
    have HV := Lib.hid (show -30 ≤ u ∧ u ≤ 200 by simp only [List.mem_cons, List.not_mem_nil, or_false] at hv; omega)
    have HO6 := Lib.hid (OwnInts.touch HO5.out ht6 (.inr (by omega)))
    have HB6 := Lib.hid (ht6.below HB5.out (Nat.le_refl _) (by omega))
    have hz6 := ht6.size
    clear hs6 ht6 hv
    go_wp2
    go_ret2
    exact ⟨_, ns, u, rfl, OwnInts.wide HO6.out (by omega) (by omega), SMS.out, HV.out, HB6.out⟩

end Go.Proofs.Ytemmnjokojgjaaa
/- The reference's draw of a tune and a rest. -/
set_option linter.unusedSimpArgs false
set_option linter.unnecessarySimpa false
set_option linter.unusedVariables false
set_option maxRecDepth 100000
namespace Go.Proofs.Ytemmnjokojgjaaa
open Go.RowKit

set_option maxHeartbeats 2000000 in
theorem DrawThinTune_any (w : World) (v0 : Value) (x0 : List Int) (h0 : Byts w v0 x0) (o0 : okByts x0) :
    Calls Try.prog 36 #[v0] w fun e w' => ∃ (v : Value) (x : TunD) (b : Int), e = .returned (.tuple #[v, .int .i64 b]) ∧ OwnTun w.heap.size w'.heap.size w' v x ∧ smT x ∧ (0 ≤ b ∧ b ≤ 2000) ∧ Below w.heap.size w w' := by
  obtain ⟨a0, ca, rfl, _, _, _⟩ := id h0
  have B0 := Lib.hid (Box.alloc w [.string ⟨#[]⟩, .slice none 0 0] 29 w.heap.size rfl)
  have hba := belowA w (.cells #[.string ⟨#[]⟩, .slice none 0 0] 29)
  go_enter Try.func36, Try.ntmps36
  go_wp2_with fail
  obtain ⟨W, hW⟩ : ∃ W, W = w.alloc (.cells #[.string ⟨#[]⟩, .slice none 0 0] 29) := ⟨_, rfl⟩
  have HWZ := Lib.hid (show W.heap.size = w.heap.size + 1 by rw [hW]; simp)
  rw [← hW] at B0 hba ⊢
  clear hW
  refine (l00From_any a0 x0.length ca _).mono ?_
  rintro e w2 ⟨rfl, hs, hz2⟩
  have hb := hs.below
  obtain ⟨p, hp⟩ : ∃ p, p = W.heap.size := ⟨_, rfl⟩
  have hpw : w.heap.size < p := by have := HWZ.out; omega
  have hp2 : p < w2.heap.size := by omega
  rw [← hp] at hs ⊢
  have HS := Lib.hid hs
  have B0 := Lib.hid (B0.out.mono hb)
  have HB := Lib.hid (hba.trans (hb.mono (by have := HWZ.out; omega)))
  have HBA := Lib.hid hba
  have HP := Lib.hid hp
  clear hs hb hz2 hp hba
  go_wp2_with fail
  refine (l25Bent_any W p 0 (.slice a0 x0.length ca) x0 w2 (Byts.mono h0 HBA.out) o0 HS.out (by omega)).mono ?_
  rintro e w3 ⟨v', x, m1, rfl, own, sm, m10, m11, hs1, ht1⟩
  obtain ⟨a, c, rfl⟩ := own.form
  have SM := Lib.hid sm
  have hz3 := ht1.size
  obtain ⟨q, hq⟩ : ∃ q, q = w3.heap.size := ⟨_, rfl⟩
  have hba := belowA w3 (.cells #[.string x.name, .slice a x.tones.length c] 29)
  have BX := Lib.hid (Box.alloc w3 [.string x.name, .slice a x.tones.length c] 29 q hq.symm)
  have B0 := Lib.hid ((B0.out.touch ht1 (.inl hpw)).mono hba)
  have HS1 := Lib.hid (hs1.mono hba)
  have HB1 := Lib.hid ((ht1.below HB.out (by omega) (by omega)).trans (hba.mono (by omega)))
  have HOX := Lib.hid ((own.mono hba).wide (show w2.heap.size ≤ _ by omega) (show w3.heap.size ≤ q by omega))
  clear own hs1 ht1 sm HS HB
  go_wp2_with fail
  rw [← hq]
  obtain ⟨W3, hW3⟩ : ∃ W, W = w3.alloc (.cells #[.string x.name, .slice a x.tones.length c] 29) := ⟨_, rfl⟩
  have hzq : q < W3.heap.size := by rw [hW3]; simp; omega
  rw [← hW3] at BX B0 HS1 HB1 HOX ⊢
  have hqp : p < q := by omega
  clear hW3 hq hba
  have c0 := BX.out.at' 0 _ rfl
  have c1 := BX.out.at' 1 _ rfl
  have g0 := B0.out.fr 0
  have g1 := B0.out.fr 1
  have r0 := B0.out.at' 0 _ rfl
  have r1 := B0.out.at' 1 _ rfl
  have l1 := BX.out.lt
  have l0 := B0.out.lt
  have n0 : ∀ y, (extT W3.drew p (p + 1) y).cell? ⟨q, 0, none⟩ = some (.string x.name) := fun y => (cell?_extT (w := W3.drew) (by simpa using l1) (.inr (by omega))).trans c0
  have n1 : ∀ y, (extT W3.drew p (p + 1) y).cell? ⟨q, 1, none⟩ = some (.slice a x.tones.length c) := fun y => (cell?_extT (w := W3.drew) (by simpa using l1) (.inr (by omega))).trans c1
  go_wp2_with fail
  refine wp_region_ord4 [(0, 3), (1, 1), (2, 4), (3, 0), (4, 1)] [2, 3] [3] (0) (p + 1) (p) (p + 1) (by omega) (by kernel_rfl) (by kernel_rfl) ?_
  (repeat ((first | with_reducible refine wpOrd4_soft (fun K hK => ?_) | with_reducible refine wpOrd4_pre (fun K hK => ?_) | with_reducible refine wpOrd4_late (fun K hK => ?_)); simp only [List.getElem?_toArray, List.getElem?_cons_zero, List.getElem?_cons_succ]; first | (go_simp; refine hK _ ?_) | (simp only [undef]; go_simp; refine hK _ ?_); clear hK K))
  ((first | with_reducible refine wpOrd4_hard ?_ | with_reducible refine wpOrd4_new ?_); simp only [List.getElem?_toArray, List.getElem?_cons_zero, List.getElem?_cons_succ])
  go_wp2_with fail
  refine (l26DrawRest_any W p m1 (.slice a0 x0.length ca) x0 W3.drew (Byts.mono h0 HBA.out) o0 (HS1.out.mono (Q.below ((Q.refl W3).drew) _)) (by omega)).mono ?_
  rintro e w9 ⟨b, m9, rfl, b0, b1, m90, m91, hs9, ht9⟩
  go_wp2_with fail
  refine And.intro ht9 ?_
  have ht9' : Touch p (p + 1) W3 w9 := ⟨ht9.os, ht9.tape, ht9.output, ht9.size, ht9.block⟩
  have hz9 := ht9'.size
  have BX9 := Lib.hid (BX.out.touch ht9' (.inr (by omega)))
  have B09 := Lib.hid (B0.out.touch ht9' (.inl (by omega)))
  have HOX9 := Lib.hid (OwnTun.touch HOX.out ht9' (.inr (by omega)))
  have HB9 := Lib.hid (ht9'.below HB1.out (by omega) (by omega))
  clear c0 c1 g0 g1 r0 r1 l0 l1
  have g0 := B09.out.fr 0
  have g1 := B09.out.fr 1
  have r0 := B09.out.at' 0 _ rfl
  have r1 := B09.out.at' 1 _ rfl
  have l0 := B09.out.lt
  (repeat ((first | with_reducible refine wpOrd4_soft (fun K hK => ?_) | with_reducible refine wpOrd4_pre (fun K hK => ?_) | with_reducible refine wpOrd4_late (fun K hK => ?_)); simp only [List.getElem?_toArray, List.getElem?_cons_zero, List.getElem?_cons_succ]; first | (go_simp; refine hK _ ?_) | (simp only [undef]; go_simp; refine hK _ ?_); clear hK K))
  ((first | with_reducible refine wpOrd4_hard ?_ | with_reducible refine wpOrd4_new ?_); simp only [List.getElem?_toArray, List.getElem?_cons_zero, List.getElem?_cons_succ])
  go_wp2_with fail
  refine And.intro ((touch_in ht9 ⟨Nat.zero_le _, by omega⟩).setCell (p := ⟨w.heap.size, 0, none⟩) ⟨Nat.zero_le _, by simp only; omega⟩ _ |>.setCell (p := ⟨w.heap.size, 1, none⟩) ⟨Nat.zero_le _, by simp only; omega⟩ _) ?_
  clear ht9 ht9' n0 n1 hs9
  (repeat ((first | with_reducible refine wpOrd4_soft (fun K hK => ?_) | with_reducible refine wpOrd4_pre (fun K hK => ?_) | with_reducible refine wpOrd4_late (fun K hK => ?_)); simp only [List.getElem?_toArray, List.getElem?_cons_zero, List.getElem?_cons_succ]; first | (go_simp; refine hK _ ?_) | (simp only [undef]; go_simp; refine hK _ ?_); clear hK K))
  (with_reducible refine wpOrd4_nil ?_); refine NoPanic.normal ?_
  go_wp2
  have t : Touch w.heap.size (w.heap.size + 1) w9 ((w9.setCell ⟨w.heap.size, 0, none⟩ (.string x.name)).setCell ⟨w.heap.size, 1, none⟩ (.slice a x.tones.length c)) := ((Touch.refl _ _ w9).setCell (p := ⟨_, 0, none⟩) (by simp) _).setCell (p := ⟨_, 1, none⟩) (by simp) _
  exact bodyPost_ret (v := .tuple #[.agg #[.string x.name, .slice a x.tones.length c], .int .i64 b]) (by simp [results, Try.results36, go_sem, r0, r1, g0, g1, l0]) rfl ⟨_, x, b, rfl, (OwnTun.touch HOX9.out t (.inr (by omega))).wide (by omega) (by simp [World.setCell]; omega), SM.out, ⟨b0, b1⟩, t.below HB9.out (Nat.le_refl _) (by omega)⟩

end Go.Proofs.Ytemmnjokojgjaaa
/- Contract of l00Has. -/
set_option linter.unusedSimpArgs false
set_option linter.unnecessarySimpa false
set_option linter.unusedVariables false
set_option maxRecDepth 100000
namespace Go.Proofs.Ytemmnjokojgjaaa
open Go.RowKit

theorem not_mem_step {xs : List Int} {n : Int} {k : Nat} (h : k < xs.length) (ht : n ∉ xs.take k) (hn : ¬ xs[k] = n) : n ∉ xs.take (k + 1) := by
  rw [List.take_succ_eq_append_getElem h, List.mem_append, List.mem_singleton]
  rintro (h | h)
  · exact ht h
  · exact hn h.symm

set_option maxHeartbeats 400000 in
theorem l00Has_any (v : Value) (xs : List Int) (n : Int) (w : World) (h : Ints w v xs) :
    Calls Try.prog 100 #[v, .int .i64 n] w fun e w' => e = .returned (.bool (decide (n ∈ xs))) ∧ Q w w' := by
  obtain ⟨a, ca, rfl, hca, hcm, _⟩ := id h
  have hm : xs.length ≤ maxLen := by omega
  clear hca hcm
  unfold maxLen at hm
  go_enter Try.func100, Try.ntmps100
  go_wp2
  go_loopw [5] (fun i wr => ∃ k : Nat, k ≤ xs.length ∧ i = .int .i64 k ∧ n ∉ xs.take k ∧ Q w wr) (fun i _ => xs.length - (intOf i).toNat)
  case atStart => exact ⟨0, Nat.zero_le _, rfl, by simp, Q.refl _⟩
  case round =>
    obtain ⟨k, hk, rfl, ht, hq⟩ := hrel
    have HT := Lib.hid ht; clear ht
    by_cases hlt : k < xs.length
    · obtain ⟨b1, o1, rfl, c1⟩ := (h.q hq).cells (by simp; omega)
      have d1 : wr.cell? ⟨b1, o1 + k, none⟩ = some (.int .i64 xs[k]) := c1 k _ (by simp [hlt])
      clear c1
      by_cases he : xs[k] = n
      · have d2 : (xs[k] == n) = true := by simpa using he
        have HM := Lib.hid (show decide (n ∈ xs) = true by rw [← he]; simp)
        clear he
        go_wp2
        go_ret
        exact ⟨ret_bool HM.out.symm, hq⟩
      · have d2 : (xs[k] == n) = false := by simpa using he
        have HE := Lib.hid he; clear he
        go_wp2
        go_roundw
        case rel => exact ⟨k + 1, by omega, by go_num, not_mem_step hlt HT.out HE.out, hq⟩
        case measure => simp [intOf] <;> omega
    · have HM := Lib.hid (show decide (n ∈ xs) = false by have := HT.out; rw [List.take_of_length_le (by omega)] at this; simpa using this)
      go_wp2
      go_ret
      exact ⟨ret_bool HM.out.symm, hq⟩

theorem l00HasB_any (r : Bool) (v : Value) (xs : List Int) (n : Int) (w : World) (h : Ints w v xs) (hr : r = decide (n ∈ xs)) :
    Calls Try.prog 100 #[v, .int .i64 n] w fun e w' => e = .returned (.bool r) ∧ Q w w' := by
  rw [hr]; exact l00Has_any v xs n w h

end Go.Proofs.Ytemmnjokojgjaaa
/- Contracts of slices.Index and slices.Contains at []int64. -/
set_option linter.unusedSimpArgs false
set_option linter.unnecessarySimpa false
set_option linter.unusedVariables false
set_option maxRecDepth 100000
namespace Go.Proofs.Ytemmnjokojgjaaa
open Go.RowKit

set_option maxHeartbeats 400000 in
theorem indexI_any (v : Value) (xs : List Int) (n : Int) (w : World) (h : Ints w v xs) :
    Calls Try.prog 105 #[v, .int .i64 n] w fun e w' => ∃ r : Int, e = .returned (.int .i64 r) ∧ (0 ≤ r ↔ n ∈ xs) ∧ Q w w' := by
  obtain ⟨a, ca, rfl, hca, hcm, _⟩ := id h
  have hm : xs.length ≤ maxLen := by omega
  clear hca hcm
  unfold maxLen at hm
  go_enter Try.func105, Try.ntmps105
  go_wp2
  go_loopw [8, 5] (fun i _ wr => ∃ k : Nat, k ≤ xs.length ∧ i = .int .i64 k ∧ n ∉ xs.take k ∧ Q w wr) (fun i _ _ => xs.length - (intOf i).toNat)
  case atStart => exact ⟨0, Nat.zero_le _, rfl, by simp, Q.refl _⟩
  case round =>
    obtain ⟨k, hk, rfl, ht, hq⟩ := hrel
    have HT := Lib.hid ht; clear ht
    by_cases hlt : k < xs.length
    · obtain ⟨b1, o1, rfl, c1⟩ := (h.q hq).cells (by simp; omega)
      have d1 : wr.cell? ⟨b1, o1 + k, none⟩ = some (.int .i64 xs[k]) := c1 k _ (by simp [hlt])
      clear c1
      by_cases he : xs[k] = n
      · have d2 : (n == xs[k]) = true := by simpa using he.symm
        have HM := Lib.hid (show n ∈ xs by rw [← he]; simp)
        clear he
        go_wp2
        go_ret
        exact ⟨k, rfl, ⟨fun _ => HM.out, fun _ => by omega⟩, hq⟩
      · have d2 : (n == xs[k]) = false := by simpa using fun e => he e.symm
        have HE := Lib.hid he; clear he
        go_wp2
        go_roundw
        case rel => exact ⟨k + 1, by omega, by go_num, not_mem_step hlt HT.out HE.out, hq⟩
        case measure => simp [intOf] <;> omega
    · have HM := Lib.hid (show n ∉ xs by have := HT.out; rwa [List.take_of_length_le (by omega)] at this)
      go_wp2
      go_ret
      exact ⟨-1, rfl, ⟨fun h => by omega, fun h => absurd h HM.out⟩, hq⟩

theorem containsI_any (b : Bool) (v : Value) (xs : List Int) (n : Int) (w : World) (h : Ints w v xs) (hb : b = decide (n ∈ xs)) :
    Calls Try.prog 85 #[v, .int .i64 n] w fun e w' => e = .returned (.bool b) ∧ Q w w' := by
  obtain ⟨a, ca, rfl, _, _, _⟩ := id h
  have HB := Lib.hid hb; clear hb
  go_enter Try.func85, Try.ntmps85
  go_wp2_with fail
  refine (indexI_any _ xs n _ h).mono ?_
  rintro e w1 ⟨r, rfl, hr, hq⟩
  have HX := Lib.hid (show decide (0 ≤ r) = b by rw [HB.out]; simp [hr])
  clear hr
  go_wp2
  go_ret
  exact ⟨ret_bool HX.out, hq⟩


end Go.Proofs.Ytemmnjokojgjaaa
/- Contract of l00Rises. -/
set_option linter.unusedSimpArgs false
set_option linter.unnecessarySimpa false
set_option linter.unusedVariables false
namespace Go.Proofs.Ytemmnjokojgjaaa
open Go.RowKit

/-- The number at k is within bounds and above the one before it. -/
def RiseAt (lo hi : Int) (xs : List Int) (k : Nat) : Prop := lo ≤ xs.getD k 0 ∧ xs.getD k 0 ≤ hi ∧ (k = 0 ∨ xs.getD (k - 1) 0 < xs.getD k 0)
def Rises (lo hi : Int) (xs : List Int) : Prop := ∀ k, k < xs.length → RiseAt lo hi xs k
instance (lo hi : Int) (xs : List Int) (k : Nat) : Decidable (RiseAt lo hi xs k) := by unfold RiseAt; infer_instance
instance (lo hi : Int) (xs : List Int) : Decidable (Rises lo hi xs) := by unfold Rises; infer_instance

theorem rises_step {lo hi : Int} {xs : List Int} {k : Nat} (h : ∀ i, i < k → RiseAt lo hi xs i) (hk : RiseAt lo hi xs k) : ∀ i, i < k + 1 → RiseAt lo hi xs i := fun i hi => by
  by_cases e : i = k
  · rw [e]; exact hk
  · exact h i (by omega)

set_option maxHeartbeats 400000 in
theorem l00Rises_any (v : Value) (lo hi : Int) (xs : List Int) (w : World) (h1 : Ints w v xs) :
    Calls Try.prog 93 #[v, .int .i64 lo, .int .i64 hi] w fun e w' => e = .returned (.bool (decide (Rises lo hi xs))) ∧ Q w w' := by
  obtain ⟨a, ca, rfl, hca, hcm, _⟩ := id h1
  have hm : xs.length ≤ maxLen := by omega
  clear hca hcm
  unfold maxLen at hm
  go_enter Try.func93, Try.ntmps93
  go_wp2
  go_loopw [7] (fun i wr => ∃ k : Nat, k ≤ xs.length ∧ i = .int .i64 k ∧ (∀ i, i < k → RiseAt lo hi xs i) ∧ Q w wr) (fun i _ => xs.length - (intOf i).toNat)
  case atStart => exact ⟨0, Nat.zero_le _, rfl, by intro i h; omega, Q.refl _⟩
  case round =>
    obtain ⟨k, hk, rfl, ht, hq⟩ := hrel
    have HT := Lib.hid ht; clear ht
    by_cases hlt : k < xs.length
    · obtain ⟨b1, o1, rfl, c1⟩ := (h1.q hq).cells (by simp; omega)
      have d1 : wr.cell? ⟨b1, o1 + k, none⟩ = some (.int .i64 xs[k]) := c1 k _ (by simp [hlt])
      have g1 : xs.getD k 0 = xs[k] := by simp [hlt]
      by_cases hin : lo ≤ xs[k] ∧ xs[k] ≤ hi
      · have hin' : true = decide (lo ≤ xs[k] ∧ xs[k] ≤ hi) := by simpa using hin
        have HI := Lib.hid hin'
        have HN := Lib.hid hin
        clear hin' hin
        by_cases h0 : 0 < k
        · have d0 : wr.cell? ⟨b1, o1 + (k - 1), none⟩ = some (.int .i64 xs[k - 1]) := c1 (k - 1) _ (by simp)
          have g0 : xs.getD (k - 1) 0 = xs[k - 1] := by simp [show k - 1 < xs.length by omega]
          have G0 := Lib.hid g0
          have G1 := Lib.hid g1
          clear c1 g0 g1
          have h0' : decide (0 < (k : Int)) = true := by simpa using h0
          have z1 : ((k : Int) - 1).toNat = k - 1 := by omega
          by_cases hr : xs[k - 1] < xs[k]
          · have hr' : decide (xs[k] ≤ xs[k - 1]) = false := by simpa using hr
            go_wp2
            go_quiet ((go_at_call 99; exact Calls.quiet_of_same (l00In_any true _ _ _ _ HI.out)))
            go_wp2
            go_roundw
            case rel => exact ⟨k + 1, by omega, by go_num, rises_step HT.out ⟨by rw [G1.out]; exact HN.out.1, by rw [G1.out]; exact HN.out.2, .inr (by rw [G0.out, G1.out]; exact hr)⟩, hq.drewN _⟩
            case measure => simp [intOf]; omega
          · have hr' : decide (xs[k] ≤ xs[k - 1]) = true := by simpa using hr
            have hno : ¬ Rises lo hi xs := fun h => by have := (h k hlt).2.2; rw [G0.out, G1.out] at this; omega
            have HX := Lib.hid hno; clear hno
            go_wp2
            go_quiet ((go_at_call 99; exact Calls.quiet_of_same (l00In_any true _ _ _ _ HI.out)))
            go_wp2
            go_ret
            exact ⟨ret_bool (by simpa using HX.out), hq.drewN _⟩
        · have h0' : decide (0 < (k : Int)) = false := by simpa using h0
          have G1 := Lib.hid g1
          clear c1 g1
          go_wp2
          go_quiet ((go_at_call 99; exact Calls.quiet_of_same (l00In_any true _ _ _ _ HI.out)))
          go_wp2
          go_roundw
          case rel => exact ⟨k + 1, by omega, by go_num, rises_step HT.out ⟨by rw [G1.out]; exact HN.out.1, by rw [G1.out]; exact HN.out.2, .inl (by omega)⟩, hq.drewN _⟩
          case measure => simp [intOf]; omega
      · have hin' : false = decide (lo ≤ xs[k] ∧ xs[k] ≤ hi) := by simpa using hin
        have HI := Lib.hid hin'
        have hno : ¬ Rises lo hi xs := fun h => by have := h k hlt; unfold RiseAt at this; rw [g1] at this; exact hin ⟨this.1, this.2.1⟩
        have HX := Lib.hid hno
        clear hin' hin hno c1 g1
        go_wp2
        go_quiet ((go_at_call 99; exact Calls.quiet_of_same (l00In_any false _ _ _ _ HI.out)))
        go_wp2
        go_ret
        exact ⟨ret_bool (by simpa using HX.out), hq.drewN _⟩
    · have hall : Rises lo hi xs := fun i hi => HT.out i (by omega)
      have HX := Lib.hid hall; clear hall
      go_wp2
      go_ret
      exact ⟨ret_bool (by simpa using HX.out), hq⟩

end Go.Proofs.Ytemmnjokojgjaaa
/- Contracts of isNote, l26Set and both ValidSet. -/
set_option linter.unusedSimpArgs false
set_option linter.unnecessarySimpa false
set_option linter.unusedVariables false
namespace Go.Proofs.Ytemmnjokojgjaaa
open Go.RowKit

theorem isNoteS_any (b : Bool) (n : Int) (w : World) (h : b = decide (0 ≤ n ∧ n ≤ 127)) :
    Calls Try.prog 90 #[.int .i64 n] w fun e w' => e = .returned (.bool b) ∧ w' = w := by
  have H := Lib.hid h; clear h
  go_enter Try.func90, Try.ntmps90
  go_wp2_with (go_at_call 62; refine (within_any b _ _ _ _ H.out).mono ?_; rintro e w' ⟨rfl, rfl⟩)
  go_ret
  exact ⟨rfl, rfl⟩
/-- What ValidSet says. -/
def validSet (xs : List Int) : Bool := decide (xs.length ≤ 24) && decide (Rises 0 127 xs)

set_option maxHeartbeats 400000 in
theorem l26Set_any (v : Value) (xs : List Int) (w : World) (h1 : Ints w v xs) :
    Calls Try.prog 65 #[v] w fun e w' => e = .returned (.bool (validSet xs)) ∧ Q w w' := by
  obtain ⟨a, ca, rfl, _, _, _⟩ := id h1
  by_cases hl : xs.length ≤ 24
  · have hl' : decide ((xs.length : Int) ≤ 24) = true := by simp; omega
    have e : validSet xs = decide (Rises 0 127 xs) := by simp [validSet, hl]
    have E := Lib.hid e; clear e hl
    go_enter Try.func65, Try.ntmps65
    go_wp2_with (go_at_call 93; refine (l00Rises_any _ 0 127 xs _ h1).mono ?_; rintro e w' ⟨rfl, hq⟩)
    go_ret
    exact ⟨ret_bool E.out.symm, hq⟩
  · have hl' : decide ((xs.length : Int) ≤ 24) = false := by simp; omega
    have e : validSet xs = false := by simp [validSet]; omega
    have E := Lib.hid e; clear e hl
    go_enter Try.func65, Try.ntmps65
    go_wp2
    go_ret
    exact ⟨ret_bool E.out.symm, Q.refl _⟩

theorem specValidSet_any (v : Value) (xs : List Int) (w : World) (h1 : Ints w v xs) :
    Calls Try.prog 35 #[v] w fun e w' => e = .returned (.bool (validSet xs)) ∧ Q w w' := by
  go_enter Try.func35, Try.ntmps35
  go_wp2_with (go_at_call 65; refine (l26Set_any _ xs _ h1).mono ?_; rintro e w' ⟨rfl, hq⟩)
  go_ret
  exact ⟨rfl, hq⟩

set_option maxHeartbeats 400000 in
theorem implValidSet_any (v : Value) (xs : List Int) (w : World) (h1 : Ints w v xs) :
    Calls Try.prog 61 #[v] w fun e w' => e = .returned (.bool (validSet xs)) ∧ Q w w' := by
  obtain ⟨a, ca, rfl, hca, hcm, _⟩ := id h1
  have hm : xs.length ≤ maxLen := by omega
  clear hca hcm
  unfold maxLen at hm
  go_enter Try.func61, Try.ntmps61
  go_wp2
  go_loopw [7] (fun i wr => ∃ k : Nat, k ≤ xs.length ∧ i = .int .i64 k ∧ (∀ i, i < k → RiseAt 0 127 xs i) ∧ Q w wr) (fun i _ => xs.length - (intOf i).toNat)
  case atStart => exact ⟨0, Nat.zero_le _, rfl, by intro i h; omega, Q.refl _⟩
  case round =>
    obtain ⟨k, hk, rfl, ht, hq⟩ := hrel
    have HT := Lib.hid ht; clear ht
    by_cases hlt : k < xs.length
    · obtain ⟨b1, o1, rfl, c1⟩ := (h1.q hq).cells (by simp; omega)
      have d1 : wr.cell? ⟨b1, o1 + k, none⟩ = some (.int .i64 xs[k]) := c1 k _ (by simp [hlt])
      have g1 : xs.getD k 0 = xs[k] := by simp [hlt]
      by_cases hin : 0 ≤ xs[k] ∧ xs[k] ≤ 127
      · have hin' : true = decide (0 ≤ xs[k] ∧ xs[k] ≤ 127) := by simpa using hin
        have HI := Lib.hid hin'
        have HN := Lib.hid hin
        clear hin' hin
        by_cases h0 : 0 < k
        · have d0 : wr.cell? ⟨b1, o1 + (k - 1), none⟩ = some (.int .i64 xs[k - 1]) := c1 (k - 1) _ (by simp)
          have g0 : xs.getD (k - 1) 0 = xs[k - 1] := by simp [show k - 1 < xs.length by omega]
          have G0 := Lib.hid g0
          have G1 := Lib.hid g1
          clear c1 g0 g1
          have h0' : decide (0 < (k : Int)) = true := by simpa using h0
          have z1 : ((k : Int) - 1).toNat = k - 1 := by omega
          by_cases hr : xs[k - 1] < xs[k]
          · have hr' : decide (xs[k] ≤ xs[k - 1]) = false := by simpa using hr
            go_wp2_with (go_at_call 90; refine (isNoteS_any true _ _ HI.out).mono ?_; rintro e w' ⟨rfl, rfl⟩)
            go_roundw
            case rel => exact ⟨k + 1, by omega, by go_num, rises_step HT.out ⟨by rw [G1.out]; exact HN.out.1, by rw [G1.out]; exact HN.out.2, .inr (by rw [G0.out, G1.out]; exact hr)⟩, hq⟩
            case measure => simp [intOf]; omega
          · have hr' : decide (xs[k] ≤ xs[k - 1]) = true := by simpa using hr
            have hno : validSet xs = false := by
              have : ¬ Rises 0 127 xs := fun h => by have := (h k hlt).2.2; rw [G0.out, G1.out] at this; omega
              simp [validSet, this]
            have HX := Lib.hid hno; clear hno
            go_wp2_with (go_at_call 90; refine (isNoteS_any true _ _ HI.out).mono ?_; rintro e w' ⟨rfl, rfl⟩)
            go_ret
            exact ⟨ret_bool HX.out.symm, hq⟩
        · have h0' : decide (0 < (k : Int)) = false := by simpa using h0
          have G1 := Lib.hid g1
          clear c1 g1
          go_wp2_with (go_at_call 90; refine (isNoteS_any true _ _ HI.out).mono ?_; rintro e w' ⟨rfl, rfl⟩)
          go_roundw
          case rel => exact ⟨k + 1, by omega, by go_num, rises_step HT.out ⟨by rw [G1.out]; exact HN.out.1, by rw [G1.out]; exact HN.out.2, .inl (by omega)⟩, hq⟩
          case measure => simp [intOf]; omega
      · have hin' : false = decide (0 ≤ xs[k] ∧ xs[k] ≤ 127) := by simpa using hin
        have HI := Lib.hid hin'
        have hno : validSet xs = false := by
          have : ¬ Rises 0 127 xs := fun h => by have := h k hlt; unfold RiseAt at this; rw [g1] at this; exact hin ⟨this.1, this.2.1⟩
          simp [validSet, this]
        have HX := Lib.hid hno
        clear hin' hin hno c1 g1
        go_wp2_with (go_at_call 90; refine (isNoteS_any false _ _ HI.out).mono ?_; rintro e w' ⟨rfl, rfl⟩)
        go_ret
        exact ⟨ret_bool HX.out.symm, hq⟩
    · have hall : Rises 0 127 xs := fun i hi => HT.out i (by omega)
      have e : decide ((xs.length : Int) ≤ 24) = validSet xs := by simp [validSet, hall]; omega
      have HX := Lib.hid e; clear e hall
      go_wp2
      go_ret
      exact ⟨ret_bool HX.out, hq⟩

end Go.Proofs.Ytemmnjokojgjaaa
