/- The reference's text of a tune. Contracts of l03Text, l25Text and TuneText. -/
import Derived.Test.YtgdfecnpkjnhnaaDoorTunTL
import Derived.Test.YtgdfecnpkjnhnaaDoorListS
import Derived.Test.YtgdfecnpkjnhnaaDoorReg2
import Derived.Test.YtgdfecnpkjnhnaaDoorKTun
import Derived.Test.YtgdfecnpkjnhnaaDoorValidTunI
set_option linter.unusedSimpArgs false
set_option linter.unnecessarySimpa false
set_option linter.unusedVariables false
set_option maxRecDepth 100000
namespace Go.Proofs.YtgdfecnpkjnhnaaDoor
open Go.RowKit

theorem note_parts {n : Int} (h : noteOk n) : ∃ m q : Nat, m < 12 ∧ q ≤ 10 ∧ n.tmod 12 = (m : Int) ∧ IntKind.i64.wrap (n.tdiv 12) = (q : Int) ∧ nameAt m ++ decB ((q : Int) - 1) = noteT n.toNat := by
  unfold noteOk at h
  refine ⟨n.toNat % 12, n.toNat / 12, by omega, by omega, ?_, ?_, noteT_eq _⟩
  · rw [Int.tmod_eq_emod_of_nonneg (by omega), show n % 12 = ((n.toNat % 12 : Nat) : Int) by omega]
  · rw [Int.tdiv_eq_ediv_of_nonneg (by omega), show n / 12 = ((n.toNat / 12 : Nat) : Int) by omega]; exact IntWalk.i64_in _ (by omega)
theorem decB_size {q : Int} (h : I64 q) : (decB q).size ≤ 21 := by unfold decB; rw [bytesB_size]; exact itoa_len h

theorem below_new {w w1 : World} {o : Obj} (h : Below (w.alloc o).drew.heap.size (w.alloc o).drew w1) : Below w.heap.size w w1 := Below.trans (Below.drew (belowA w o)) (h.mono (by simp))
theorem tonOk_sizes {x : Ton} (h : TonOk x) : (noteT x.note.toNat).size ≤ 23 ∧ (decB x.start).size ≤ 21 ∧ (decB x.len).size ≤ 21 := by
  have h1 := h.note; have h2 := h.start; have h3 := h.len
  unfold noteOk at h1
  refine ⟨by unfold noteT; rw [bytesB_size]; exact noteL_len (by omega), decB_size (small64 (by omega) (by omega)), decB_size (small64 (by omega) (by omega))⟩
theorem tonOk_nums {x : Ton} (h : TonOk x) : noteOk x.note ∧ I64 x.start ∧ I64 x.len := by
  have h1 := h.note; have h2 := h.start; have h3 := h.len
  exact ⟨h1, small64 (by omega) (by omega), small64 (by omega) (by omega)⟩
theorem tunOk_len {x : TunD} (h : TunOk x) {k : Nat} (hk : k ≤ x.tones.length) : (tunL x.name (x.tones.take k)).length ≤ 9000 := by
  have hn10 := ((NameOk.iff' _).1 h.name).2.1
  have := tunL_len x.name (x.tones.take k) (fun y hy => by
    obtain ⟨i, hi, rfl⟩ := List.getElem_of_mem (List.mem_of_mem_take hy)
    have := (h.tones i hi hi).1
    have h2 := tonOk_nums this
    have h1 := h2.1
    unfold noteOk at h1
    exact ⟨by omega, h2.2⟩)
  rw [List.length_take, Nat.min_eq_left hk] at this
  have := h.len
  omega

set_option maxHeartbeats 2000000 in
theorem l03Text_any (n : Int) (w : World) (h : noteOk n) :
    Calls Tryd.prog 67 #[.int .i64 n] w fun e w' => e = .returned (.string (noteT n.toNat)) ∧ Below w.heap.size w w' := by
  obtain ⟨m, q, hm, hq, t1, t2, e⟩ := note_parts h
  have HE := Lib.hid e
  have N0 := fun y => (show (ext (w.alloc (.cells #[.string ⟨#[99]⟩, .string ⟨#[99, 115]⟩, .string ⟨#[100]⟩, .string ⟨#[100, 115]⟩, .string ⟨#[101]⟩, .string ⟨#[102]⟩, .string ⟨#[102, 115]⟩, .string ⟨#[103]⟩, .string ⟨#[103, 115]⟩, .string ⟨#[97]⟩, .string ⟨#[97, 115]⟩, .string ⟨#[98]⟩] 9)).drew none y).cell? ⟨w.heap.size, m, none⟩ = some (.string (nameAt m)) from (cell?_ext (by simp) (by simp)).trans (nameAt_cell w _ hm))
  have hs := nameAt_size hm
  have d1 : decide ((m : Int) < 12) = true := by simp; omega
  have d2 : decide (m < 12) = true := by simp; omega
  have d3 : (m : Int) < 12 := by omega
  have hd := decB_size (q := (q : Int) - 1) (small64 (by omega) (by omega))
  have k1 : (9223372036854775807 < (nameAt m).size + (decB ((q : Int) - 1)).size) = False := eq_false (by omega)
  clear h e
  go_enter Tryd.func67, Tryd.ntmps67
  go_wp2_with fail
  refine wp_region_ordG [(0, 1), (1, 1), (2, 1), (3, 1), (4, 1), (5, 1), (6, 1), (7, 1), (8, 0), (9, 1), (10, 1)] [8] (none) (by kernel_rfl) (by kernel_rfl) ?_
  (repeat ((first | with_reducible refine wpOrdG_soft (fun K hK => ?_) | with_reducible refine wpOrdG_pre (fun K hK => ?_)); simp only [List.getElem?_toArray, List.getElem?_cons_zero, List.getElem?_cons_succ]; first | (go_simp; refine hK _ ?_) | (simp only [undef]; go_simp; refine hK _ ?_); clear hK K))
  (with_reducible refine wpOrdG_hard ?_; simp only [List.getElem?_toArray, List.getElem?_cons_zero, List.getElem?_cons_succ])
  go_wp2_with fail
  refine (l01DecB_any _ _ (small64 (by omega) (by omega))).mono ?_
  rintro e w1 ⟨rfl, hb1⟩
  have HB := Lib.hid (below_new hb1)
  go_wp2_with fail
  refine ⟨grown_of_below hb1, ?_⟩
  clear hb1
  (repeat ((first | with_reducible refine wpOrdG_soft (fun K hK => ?_) | with_reducible refine wpOrdG_pre (fun K hK => ?_)); simp only [List.getElem?_toArray, List.getElem?_cons_zero, List.getElem?_cons_succ]; first | (go_simp; refine hK _ ?_) | (simp only [undef]; go_simp; refine hK _ ?_); clear hK K))
  (with_reducible refine wpOrdG_nil ?_); refine NoPanic.normal ?_
  go_wp2
  go_ret
  exact ⟨by rw [← HE.out]; rfl, HB.out⟩

set_option maxHeartbeats 2000000 in
theorem l25Text_any (b : Nat) (lv : Value) (x : TunD) (w : World) (h : TunIn w b lv x) (hb : b < w.heap.size) (hok : TunOk x) :
    Calls Tryd.prog 35 #[.pointer (some ⟨b, 0, none⟩)] w fun e w' => e = .returned (.string (bytesB (tunL x.name x.tones))) ∧ Below w.heap.size w w' := by
  obtain ⟨c0, c1, hlv, hnm⟩ := h
  obtain ⟨a, ca, rfl, hca, hcm, _⟩ := id hlv
  have hl6 := hok.len
  have hn10 := ((NameOk.iff' _).1 hok.name).2.1
  have OK := Lib.hid hok
  clear hca hcm hok
  go_enter Tryd.func35, Tryd.ntmps35
  go_wp2_with fail
  go_loopw [3, 4] (fun o i wr => ∃ k : Nat, k ≤ x.tones.length ∧ i = .int .i64 (k : Int) ∧ o = .string (bytesB (tunL x.name (x.tones.take k))) ∧ Below w.heap.size w wr) (fun _ i _ => x.tones.length - (intOf i).toNat)
  case atStart => exact ⟨0, Nat.zero_le _, by go_num, by rw [List.take_zero, tunL_nil], Below.refl _ _⟩
  case round =>
    obtain ⟨k, hk, rfl, rfl, hbw⟩ := hrel
    have hz := hbw.size
    have HB := Lib.hid hbw
    have c1 := cellB hbw c1
    have hlr := Tons.mono hlv hbw
    clear hbw
    by_cases hlt : k < x.tones.length
    · obtain ⟨b1, o1, rfl, hB1, u0, u1, u2⟩ := hlr.at hlt
      have HT := Lib.hid (OK.out.tones k hlt hlt).1
      have HS := Lib.hid (show bytesB (tunL x.name (x.tones.take k)) ++ ((⟨#[32]⟩ : ByteArray) ++ noteT x.tones[k].note.toNat ++ (⟨#[64]⟩ : ByteArray) ++ decB x.tones[k].start ++ (⟨#[43]⟩ : ByteArray) ++ decB x.tones[k].len) = bytesB (tunL x.name (x.tones.take (k + 1))) by
        rw [List.take_succ_eq_append_getElem hlt]; exact tunT_snoc _ _ _)
      have hlen := tunOk_len OK.out (k := k) hk
      obtain ⟨o, ho⟩ : ∃ o, o = bytesB (tunL x.name (x.tones.take k)) := ⟨_, rfl⟩
      rw [← ho] at HS ⊢
      have hos : o.size ≤ 10000 := by rw [ho, bytesB_size]; omega
      obtain ⟨s1, s2, s3⟩ := tonOk_sizes HT.out
      have k1 : (9223372036854775807 < 1 + (noteT x.tones[k].note.toNat).size) = False := eq_false (by omega)
      have k2 : (9223372036854775807 < 1 + (noteT x.tones[k].note.toNat).size + 1) = False := eq_false (by omega)
      have NK := Lib.hid (tonOk_nums HT.out)
      have n0 : ∀ y, (ext (wr.alloc (.cells #[.int .i64 x.tones[k].note, .int .i64 x.tones[k].start, .int .i64 x.tones[k].len] 59)).drew none y).cell? ⟨wr.heap.size, 0, none⟩ = some (.int .i64 x.tones[k].note) := fun y => (cell?_ext (by simp) (by simp)).trans (by simp [go_sem])
      have n1 : ∀ y, (ext (wr.alloc (.cells #[.int .i64 x.tones[k].note, .int .i64 x.tones[k].start, .int .i64 x.tones[k].len] 59)).drew none y).cell? ⟨wr.heap.size, 1, none⟩ = some (.int .i64 x.tones[k].start) := fun y => (cell?_ext (by simp) (by simp)).trans (by simp [go_sem])
      have n2 : ∀ y, (ext (wr.alloc (.cells #[.int .i64 x.tones[k].note, .int .i64 x.tones[k].start, .int .i64 x.tones[k].len] 59)).drew none y).cell? ⟨wr.heap.size, 2, none⟩ = some (.int .i64 x.tones[k].len) := fun y => (cell?_ext (by simp) (by simp)).trans (by simp [go_sem])
      have k3 : (9223372036854775807 < 1 + (noteT x.tones[k].note.toNat).size + 1 + (decB x.tones[k].start).size) = False := eq_false (by omega)
      have k4 : (9223372036854775807 < 1 + (noteT x.tones[k].note.toNat).size + 1 + (decB x.tones[k].start).size + 1) = False := eq_false (by omega)
      have k5 : (9223372036854775807 < 1 + (noteT x.tones[k].note.toNat).size + 1 + (decB x.tones[k].start).size + 1 + (decB x.tones[k].len).size) = False := eq_false (by omega)
      have k6 : (9223372036854775807 < o.size + (1 + (noteT x.tones[k].note.toNat).size + 1 + (decB x.tones[k].start).size + 1 + (decB x.tones[k].len).size)) = False := eq_false (by omega)
      clear hlr ho hlen
      go_wp2_with fail
      refine wp_region_ordG [(0, 1), (1, 1), (2, 1), (6, 1), (7, 1), (11, 1), (12, 1), (3, 0), (4, 1), (5, 1), (8, 0), (9, 1), (10, 1), (13, 0), (14, 1), (15, 1), (16, 1)] [3, 8, 13] (none) (by kernel_rfl) (by kernel_rfl) ?_
      (repeat ((first | with_reducible refine wpOrdG_soft (fun K hK => ?_) | with_reducible refine wpOrdG_pre (fun K hK => ?_)); simp only [List.getElem?_toArray, List.getElem?_cons_zero, List.getElem?_cons_succ]; first | (go_simp; refine hK _ ?_) | (simp only [undef]; go_simp; refine hK _ ?_); clear hK K))
      (with_reducible refine wpOrdG_hard ?_; simp only [List.getElem?_toArray, List.getElem?_cons_zero, List.getElem?_cons_succ])
      go_wp2_with fail
      refine (l03Text_any _ _ NK.out.1).mono ?_
      rintro e w2 ⟨rfl, hb2⟩
      have HB2 := Lib.hid (below_new hb2)
      have G2 := Lib.hid hb2
      go_wp2_with fail
      refine ⟨grown_of_below hb2, ?_⟩
      clear hb2
      (repeat ((first | with_reducible refine wpOrdG_soft (fun K hK => ?_) | with_reducible refine wpOrdG_pre (fun K hK => ?_)); simp only [List.getElem?_toArray, List.getElem?_cons_zero, List.getElem?_cons_succ]; first | (go_simp; refine hK _ ?_) | (simp only [undef]; go_simp; refine hK _ ?_); clear hK K))
      (repeat ((first | with_reducible refine wpOrdG_soft (fun K hK => ?_) | with_reducible refine wpOrdG_pre (fun K hK => ?_)); simp only [List.getElem?_toArray, List.getElem?_cons_zero, List.getElem?_cons_succ]; first | (go_simp; refine hK _ ?_) | (simp only [undef]; go_simp; refine hK _ ?_); clear hK K))
      (with_reducible refine wpOrdG_hard ?_; simp only [List.getElem?_toArray, List.getElem?_cons_zero, List.getElem?_cons_succ])
      go_wp2_with fail
      refine (l01DecB_any _ _ NK.out.2.1).mono ?_
      rintro e w3 ⟨rfl, hb3⟩
      have HB3 := Lib.hid (HB2.out.trans (hb3.mono HB2.out.size))
      have G3 := Lib.hid (G2.out.trans (hb3.mono G2.out.size))
      go_wp2_with fail
      refine ⟨grown_of_below G3.out, ?_⟩
      clear hb3
      (repeat ((first | with_reducible refine wpOrdG_soft (fun K hK => ?_) | with_reducible refine wpOrdG_pre (fun K hK => ?_)); simp only [List.getElem?_toArray, List.getElem?_cons_zero, List.getElem?_cons_succ]; first | (go_simp; refine hK _ ?_) | (simp only [undef]; go_simp; refine hK _ ?_); clear hK K))
      (with_reducible refine wpOrdG_hard ?_; simp only [List.getElem?_toArray, List.getElem?_cons_zero, List.getElem?_cons_succ])
      go_wp2_with fail
      refine (l01DecB_any _ _ NK.out.2.2).mono ?_
      rintro e w4 ⟨rfl, hb4⟩
      have HB4 := Lib.hid (HB.out.trans ((HB3.out.trans (hb4.mono HB3.out.size)).mono hz))
      have G4 := Lib.hid (G3.out.trans (hb4.mono G3.out.size))
      go_wp2_with fail
      refine ⟨grown_of_below G4.out, ?_⟩
      clear hb4
      (repeat ((first | with_reducible refine wpOrdG_soft (fun K hK => ?_) | with_reducible refine wpOrdG_pre (fun K hK => ?_)); simp only [List.getElem?_toArray, List.getElem?_cons_zero, List.getElem?_cons_succ]; first | (go_simp; refine hK _ ?_) | (simp only [undef]; go_simp; refine hK _ ?_); clear hK K))
      (with_reducible refine wpOrdG_nil ?_); refine NoPanic.normal ?_
      go_wp2
      go_roundw
      case rel => exact ⟨k + 1, by omega, by go_num, by rw [← HS.out], HB4.out⟩
      case measure => simp [intOf] <;> omega
    · obtain rfl : k = x.tones.length := by omega
      have HE := Lib.hid (show bytesB (tunL x.name (x.tones.take x.tones.length)) = bytesB (tunL x.name x.tones) by rw [List.take_length])
      clear hlr
      go_wp2
      go_ret
      exact ⟨by rw [← HE.out]; rfl, HB.out⟩

theorem specTuneText_any (v : Value) (x : TunD) (w : World) (h : RdTun w v x) (_ : x.ok) (_ : x.tones.length ≤ 1048576) :
    Calls Tryd.prog 13 #[v] w fun e w' => e = .returned (.string (tunT x)) ∧ Below w.heap.size w w' := by
  obtain ⟨lv, rfl, hlv⟩ := h
  have HN := Lib.hid ‹x.ok›.1
  have hT : TunIn (w.alloc (.cells #[.string x.name, lv] 35)) w.heap.size lv x := ⟨by simp [go_sem], by simp [go_sem], hlv.mono (belowA _ _), HN.out⟩
  have HT := Lib.hid hT
  obtain ⟨b, hb⟩ : ∃ b, b = validTunB x := ⟨_, rfl⟩
  cases b
  · have E := Lib.hid (tunT_no hb.symm)
    have HV := Lib.hid hb.symm
    clear hb hT
    go_enter Tryd.func13, Tryd.ntmps13
    go_wp2_with fail
    refine (l25Ok_any _ lv x _ HT.out).mono ?_
    rw [HV.out]
    rintro e w1 ⟨rfl, hb1⟩
    have HB := Lib.hid (Below.trans (belowA w (.cells #[.string x.name, lv] 35)) (hb1.mono (by simp)))
    clear hb1
    go_wp2
    go_ret
    exact ⟨by rw [E.out]; rfl, HB.out⟩
  · have E := Lib.hid (tunT_yes hb.symm)
    have HV := Lib.hid hb.symm
    have HK := Lib.hid (show TunOk x by have := hb.symm; simpa [validTunB] using this)
    clear hb hT
    go_enter Tryd.func13, Tryd.ntmps13
    go_wp2_with fail
    refine (l25Ok_any _ lv x _ HT.out).mono ?_
    rw [HV.out]
    rintro e w1 ⟨rfl, hb1⟩
    have HB := Lib.hid (Below.trans (belowA w (.cells #[.string x.name, lv] 35)) (hb1.mono (by simp)))
    have HT1 := Lib.hid (show TunIn w1 w.heap.size lv x from ⟨cellB hb1 HT.out.c0, cellB hb1 HT.out.c1, HT.out.tones.mono hb1, HN.out⟩)
    have hw1 : w.heap.size < w1.heap.size := by have := hb1.size; simp at this; omega
    clear hb1
    go_wp2_with fail
    refine (l25Text_any _ lv x _ HT1.out hw1 HK.out).mono ?_
    rintro e w2 ⟨rfl, hb2⟩
    have HB2 := Lib.hid (HB.out.trans (hb2.mono (by omega)))
    clear hb2
    go_wp2
    go_ret
    exact ⟨by rw [E.out]; rfl, HB2.out⟩

end Go.Proofs.YtgdfecnpkjnhnaaDoor
