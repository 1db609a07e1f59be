import Derived.Test.YtgdfecnpkjnhnaaGreatDoorFtZ12
import Derived.Test.YtgdfecnpkjnhnaaGreatDoorFtZ11
import Derived.Test.YtgdfecnpkjnhnaaGreatDoorFtZ2
import Derived.Test.YtgdfecnpkjnhnaaGreatDoorFtZ3
import Derived.Test.YtgdfecnpkjnhnaaGreatDoorFtZ7
import Derived.Test.YtgdfecnpkjnhnaaGreatDoorShelf
import Derived.Test.YtgdfecnpkjnhnaaGreatDoorFtZ1
import Derived.Lib.LaidTab
import Derived.Lib.AppendIntMem
import Derived.Shelf.Vars
/- The reference's text of a list of numbers. Contract of l01List. -/
set_option linter.unusedSimpArgs false
set_option linter.unnecessarySimpa false
set_option linter.unusedVariables false
set_option maxRecDepth 100000
namespace Go.Proofs.YtgdfecnpkjnhnaaGreatDoor
open Go.RowKit

end Go.Proofs.YtgdfecnpkjnhnaaGreatDoor
/- The reference's text of a tune. Contracts of l03Text, l25Text and TuneText. -/
set_option linter.unusedSimpArgs false
set_option linter.unnecessarySimpa false
set_option linter.unusedVariables false
set_option maxRecDepth 100000
namespace Go.Proofs.YtgdfecnpkjnhnaaGreatDoor
open Go.RowKit

theorem note_parts {n : Int} (h : noteOk n) : ∃ m q : Nat, m < 12 ∧ q ≤ 10 ∧ n.tmod 12 = (m : Int) ∧ IntKind.i64.wrap (n.tdiv 12) = (q : Int) ∧ nameAt m ++ decB ((q : Int) - 1) = noteT n.toNat := by
  unfold noteOk at h
  refine ⟨n.toNat % 12, n.toNat / 12, by omega, by omega, ?_, ?_, noteT_eq _⟩
  · rw [Int.tmod_eq_emod_of_nonneg (by omega), show n % 12 = ((n.toNat % 12 : Nat) : Int) by omega]
  · rw [Int.tdiv_eq_ediv_of_nonneg (by omega), show n / 12 = ((n.toNat / 12 : Nat) : Int) by omega]; exact IntWalk.i64_in _ (by omega)
theorem decB_size {q : Int} (h : I64 q) : (decB q).size ≤ 21 := by unfold decB; rw [bytesB_size]; exact itoa_len h

theorem below_new {w w1 : World} {o : Obj} (h : Below (w.alloc o).drew.heap.size (w.alloc o).drew w1) : Below w.heap.size w w1 := Below.trans (Below.drew (belowA w o)) (h.mono (by simp))
theorem tonOk_sizes {x : Ton} (h : TonOk x) : (noteT x.note.toNat).size ≤ 23 ∧ (decB x.start).size ≤ 21 ∧ (decB x.len).size ≤ 21 := by
  have h1 := h.note; have h2 := h.start; have h3 := h.len
  unfold noteOk at h1
  refine ⟨by unfold noteT; rw [bytesB_size]; exact noteL_len (by omega), decB_size (small64 (by omega) (by omega)), decB_size (small64 (by omega) (by omega))⟩
theorem tonOk_nums {x : Ton} (h : TonOk x) : noteOk x.note ∧ I64 x.start ∧ I64 x.len := by
  have h1 := h.note; have h2 := h.start; have h3 := h.len
  exact ⟨h1, small64 (by omega) (by omega), small64 (by omega) (by omega)⟩
theorem tunOk_len {x : TunD} (h : TunOk x) {k : Nat} (hk : k ≤ x.tones.length) : (tunL x.name (x.tones.take k)).length ≤ 9000 := by
  have hn10 := ((NameOk.iff' _).1 h.name).2.1
  have := tunL_len x.name (x.tones.take k) (fun y hy => by
    obtain ⟨i, hi, rfl⟩ := List.getElem_of_mem (List.mem_of_mem_take hy)
    have := (h.tones i hi hi).1
    have h2 := tonOk_nums this
    have h1 := h2.1
    unfold noteOk at h1
    exact ⟨by omega, h2.2⟩)
  rw [List.length_take, Nat.min_eq_left hk] at this
  have := h.len
  omega

end Go.Proofs.YtgdfecnpkjnhnaaGreatDoor
/- The program's text of a list of numbers. Contracts of Decimal and ListText. -/
set_option linter.unusedSimpArgs false
set_option linter.unnecessarySimpa false
set_option linter.unusedVariables false
set_option maxRecDepth 100000
namespace Go.Proofs.YtgdfecnpkjnhnaaGreatDoor
open Go.RowKit

/-- The library's table of powers of ten is as its text lays it. -/
def Tab (w : World) : Prop := Lib.TabIs Tryz.prog w "internal/strconv.uint64pow10" .u64 Lib.pow10Tab
theorem Tab.mono {w w' : World} (h : Tab w) (hb : Below w.heap.size w w') : Tab w' := by
  unfold Tab Lib.TabIs World.var? at *
  cases hg : Tryz.prog.globalNamed "internal/strconv.uint64pow10" with
  | none => rw [hg] at h; cases h
  | some g =>
    rw [hg] at h
    simp only [Option.bind_some] at h ⊢
    rcases Nat.lt_or_ge g w.heap.size with hl | hl
    · rw [hb.block g hl]; exact h
    · rw [Array.getElem?_eq_none hl] at h; cases h
theorem info_str : (Tryz.prog.info? 9).map (fun i => (i.zero, i.size, i.bytes)) = some (some (.string ⟨#[]⟩), 1, 16) := by kernel_rfl

theorem Decimal_any (n : Int) (w : World) (hn : I64 n) (ht : Tab w) :
    Calls Tryz.prog 29 #[.int .i64 n] w fun e w' => e = .returned (.string (decB n)) ∧ Below w.heap.size w w' := by
  have hb := hn.bd
  go_enter Tryz.func29, Tryz.ntmps29
  go_wp2_with fail
  refine (Tryz.strconv_FormatInt_10 n hb.1 hb.2 _ ht).mono ?_
  rintro e w' ⟨rfl, k, os, rfl⟩
  have HB := Lib.hid (Lib.below_grow w.heap.size w (Nat.le_refl _) k os)
  go_wp2
  go_ret
  exact ⟨rfl, HB.out⟩
def Idx (xs : List Int) (w : World) (e : Ending) (w' : World) : Prop := ∃ i : Int, e = .returned (.int .i64 i) ∧ (valsB xs = true → i < 0) ∧ (valsB xs = false → 0 ≤ i) ∧ Below w.heap.size w w'

end Go.Proofs.YtgdfecnpkjnhnaaGreatDoor
/- The program's text of a tune. Contracts of NoteName and TuneText. -/
set_option linter.unusedSimpArgs false
set_option linter.unnecessarySimpa false
set_option linter.unusedVariables false
set_option maxRecDepth 100000
namespace Go.Proofs.YtgdfecnpkjnhnaaGreatDoor
open Go.RowKit

set_option maxHeartbeats 2000000 in
theorem NoteName_any (n : Int) (w : World) (h : noteOk n) (ht : Tab w) :
    Calls Tryz.prog 28 #[.int .i64 n] w fun e w' => e = .returned (.string (noteT n.toNat)) ∧ Below w.heap.size w w' := by
  obtain ⟨m, q, hm, hq, t1, t2, e⟩ := note_parts h
  have HV := Lib.hid (show true = decide (noteOk n) from (decide_eq_true h).symm)
  have HE := Lib.hid e
  have N0 := fun y => (show (ext (w.alloc (.cells #[.string ⟨#[99]⟩, .string ⟨#[99, 115]⟩, .string ⟨#[100]⟩, .string ⟨#[100, 115]⟩, .string ⟨#[101]⟩, .string ⟨#[102]⟩, .string ⟨#[102, 115]⟩, .string ⟨#[103]⟩, .string ⟨#[103, 115]⟩, .string ⟨#[97]⟩, .string ⟨#[97, 115]⟩, .string ⟨#[98]⟩] 9)).drew none y).cell? ⟨w.heap.size, m, none⟩ = some (.string (nameAt m)) from (cell?_ext (by simp) (by simp)).trans (nameAt_cell w _ hm))
  have hs := nameAt_size hm
  have d1 : decide ((m : Int) < 12) = true := by simp; omega
  have d2 : decide (m < 12) = true := by simp; omega
  have d3 : (m : Int) < 12 := by omega
  have hd := decB_size (q := (q : Int) - 1) (small64 (by omega) (by omega))
  have k1 : (9223372036854775807 < (nameAt m).size + (decB ((q : Int) - 1)).size) = False := eq_false (by omega)
  clear h e
  go_enter Tryz.func28, Tryz.ntmps28
  go_wp2_with fail
  refine (isNote_any true n _ HV.out).mono ?_
  rintro e w0 ⟨rfl, rfl⟩
  go_wp2_with fail
  refine wp_region_ordG [(0, 1), (1, 1), (2, 1), (3, 1), (4, 1), (5, 1), (6, 1), (7, 1), (8, 0), (9, 1), (10, 1)] [8] (none) (by kernel_rfl) (by kernel_rfl) ?_
  (repeat ((first | with_reducible refine wpOrdG_soft (fun K hK => ?_) | with_reducible refine wpOrdG_pre (fun K hK => ?_)); simp only [List.getElem?_toArray, List.getElem?_cons_zero, List.getElem?_cons_succ]; first | (go_simp; refine hK _ ?_) | (simp only [undef]; go_simp; refine hK _ ?_); clear hK K))
  (with_reducible refine wpOrdG_hard ?_; simp only [List.getElem?_toArray, List.getElem?_cons_zero, List.getElem?_cons_succ])
  go_wp2_with fail
  refine (Decimal_any _ _ (small64 (by omega) (by omega)) (ht.mono (Below.drew (belowA w0 _)))).mono ?_
  rintro e w1 ⟨rfl, hb1⟩
  have HB := Lib.hid (below_new hb1)
  go_wp2_with fail
  refine ⟨grown_of_below hb1, ?_⟩
  clear hb1
  (repeat ((first | with_reducible refine wpOrdG_soft (fun K hK => ?_) | with_reducible refine wpOrdG_pre (fun K hK => ?_)); simp only [List.getElem?_toArray, List.getElem?_cons_zero, List.getElem?_cons_succ]; first | (go_simp; refine hK _ ?_) | (simp only [undef]; go_simp; refine hK _ ?_); clear hK K))
  (with_reducible refine wpOrdG_nil ?_); refine NoPanic.normal ?_
  go_wp2
  go_ret
  exact ⟨by rw [← HE.out]; rfl, HB.out⟩

theorem owns_lit1T (w : World) (cs : List Value) (e : TypeId) (n base : Nat) (hn : cs.length = n) (h : base ≤ w.heap.size) (hm : n ≤ maxLen) : (w.alloc (.cells cs.toArray e)).ownsRow base e 1 (.slice (some ⟨w.heap.size, 0, none⟩) n n) n cs := by
  subst hn
  exact ⟨by simp, .inr ⟨w.heap.size, cs.length, cs.toArray, rfl, h, heap_alloc_new w _, Nat.le_refl _, hm, by simp, by simp⟩⟩
def tunW (x : TunD) (k : Nat) : List ByteArray := x.name :: (x.tones.take k).map fun t => bytesB (tonL t)
theorem tunW_len (x : TunD) {k : Nat} (h : k ≤ x.tones.length) : (tunW x k).length = k + 1 := by unfold tunW; simp; omega
theorem tunW_step (x : TunD) {k : Nat} (h : k < x.tones.length) : tunW x (k + 1) = tunW x k ++ [bytesB (tonL x.tones[k])] := by
  unfold tunW
  rw [List.take_succ_eq_append_getElem h, List.map_append]; rfl
theorem tunW_join (x : TunD) : Lib.join ((tunW x x.tones.length).map (·.data.toList)) [32] = tunL x.name x.tones := by
  rw [← tunL_join]
  unfold tunW
  rw [List.take_length, List.map_cons, List.map_map]
  congr 2
  all_goals exact List.map_congr_left fun t _ => by simp [Function.comp, bytesB_list]

set_option maxHeartbeats 4000000 in
theorem implTuneText_any (v : Value) (x : TunD) (w : World) (h : RdTun w v x) (ok : x.ok) (_ : x.tones.length ≤ 1048576) (ht : Tab w) :
    Calls Tryz.prog 9 #[v] w fun e w' => e = .returned (.string (tunT x)) ∧ Below w.heap.size w w' := by
  obtain ⟨lv, rfl, hlv⟩ := h
  obtain ⟨a, ca, rfl, hca, hcm, _⟩ := id hlv
  have HN := Lib.hid ok.1
  have HLV := Lib.hid hlv
  clear hca hcm ok
  obtain ⟨b, hb⟩ : ∃ b, b = validTunB x := ⟨_, rfl⟩
  cases b
  · have E := Lib.hid (tunT_no hb.symm)
    have HV := Lib.hid hb.symm
    clear hb
    go_enter Tryz.func9, Tryz.ntmps9
    go_wp2_with fail
    refine (implValidTun_any _ (.slice a x.tones.length ca) x _ ⟨rfl, HLV.out.mono (belowA _ _)⟩ HN.out).mono ?_
    rw [HV.out]
    rintro e w1 ⟨rfl, hb1⟩
    have HB := Lib.hid (Below.trans (belowA w (.cells #[.string x.name, .slice a x.tones.length ca] 26)) (hb1.mono (by simp)))
    clear hb1
    go_wp2
    go_ret
    exact ⟨by rw [E.out]; rfl, HB.out⟩
  have E := Lib.hid (tunT_yes hb.symm)
  have HV := Lib.hid hb.symm
  have HK := Lib.hid (show TunOk x by have := hb.symm; simpa [validTunB] using this)
  have hl6 := HK.out.len
  clear hb
  go_enter Tryz.func9, Tryz.ntmps9
  go_wp2_with fail
  refine (implValidTun_any _ (.slice a x.tones.length ca) x _ ⟨rfl, HLV.out.mono (belowA _ _)⟩ HN.out).mono ?_
  rw [HV.out]
  rintro e w1 ⟨rfl, hb1⟩
  have hz1 := hb1.size
  simp at hz1
  have HB1 := Lib.hid (Below.trans (belowA w (.cells #[.string x.name, .slice a x.tones.length ca] 26)) (hb1.mono (by simp)))
  have y0 : w1.cell? ⟨w.heap.size, 0, none⟩ = some (.string x.name) := cellB hb1 (by simp [go_sem])
  have y1 : w1.cell? ⟨w.heap.size, 1, none⟩ = some (.slice a x.tones.length ca) := cellB hb1 (by simp [go_sem])
  have HLV1 := Lib.hid (HLV.out.mono HB1.out)
  have HT1 := Lib.hid (ht.mono HB1.out)
  have hw1 : w.heap.size < w1.heap.size := by omega
  have HO0 := Lib.hid (show (w1.alloc (.cells #[.string x.name] 9)).ownsRow w1.heap.size 9 1 (.slice (some ⟨w1.heap.size, 0, none⟩) 1 1) 1 ((tunW x 0).map Value.string) from
    owns_lit1T w1 [.string x.name] _ 1 _ rfl (Nat.le_refl _) (by simp [maxLen]))
  have z1 : (w1.alloc (.cells #[.string x.name] 9)).cell? ⟨w.heap.size, 1, none⟩ = some (.slice a x.tones.length ca) := cellB (belowA w1 _) y1
  clear hb1
  go_wp2_with fail
  go_loopw [3, 5, 15] (fun o _ i wr => ∃ (k n : Nat) (a' : Option Addr) (c' : Nat), k ≤ x.tones.length ∧ n = k + 1 ∧ i = .int .i64 (k : Int) ∧ o = .slice a' n c' ∧ wr.ownsRow w1.heap.size 9 1 (.slice a' n c') n ((tunW x k).map Value.string) ∧ Below w1.heap.size w1 wr) (fun _ _ i _ => x.tones.length - (intOf i).toNat)
  case atStart => exact ⟨0, 1, _, _, Nat.zero_le _, rfl, by go_num, rfl, HO0.out, belowA _ _⟩
  case round =>
    obtain ⟨k, n, a', c', hk, hn, rfl, rfl, ho, hbw⟩ := hrel
    have hz := hbw.size
    have HO := Lib.hid ho; have HB := Lib.hid hbw; have HN := Lib.hid hn
    have hlr := HLV1.out.mono hbw
    have hn15 : n ≤ 129 := by omega
    clear HO0 ho hbw hn
    by_cases hlt : k < x.tones.length
    · obtain ⟨b1, o1, rfl, hB1, u0, u1, u2⟩ := hlr.at hlt
      have HT := Lib.hid (HK.out.tones k hlt hlt).1
      have NK := Lib.hid (tonOk_nums HT.out)
      have HS := Lib.hid (tunW_step x hlt)
      have HE := Lib.hid (tonT_eq x.tones[k])
      obtain ⟨s1, s2, s3⟩ := tonOk_sizes HT.out
      have k1 : (9223372036854775807 < (noteT x.tones[k].note.toNat).size + 1) = False := eq_false (by omega)
      have k2 : (9223372036854775807 < (noteT x.tones[k].note.toNat).size + 1 + (decB x.tones[k].start).size) = False := eq_false (by omega)
      have k3 : (9223372036854775807 < (noteT x.tones[k].note.toNat).size + 1 + (decB x.tones[k].start).size + 1) = False := eq_false (by omega)
      have k4 : (9223372036854775807 < (noteT x.tones[k].note.toNat).size + 1 + (decB x.tones[k].start).size + 1 + (decB x.tones[k].len).size) = False := eq_false (by omega)
      obtain ⟨ws, hws⟩ : ∃ ws, ws = wr.alloc (.cells #[.int .i64 x.tones[k].note, .int .i64 x.tones[k].start, .int .i64 x.tones[k].len] 50) := ⟨_, rfl⟩
      have zs : wr.heap.size < ws.heap.size := by rw [hws]; simp
      have n0 : ∀ y, (extT ws.drew w1.heap.size wr.heap.size y).cell? ⟨wr.heap.size, 0, none⟩ = some (.int .i64 x.tones[k].note) := fun y => (cell?_extT_hi (by simpa using zs) (Nat.le_refl _)).trans (by rw [hws]; simp [go_sem])
      have n1 : ∀ y, (extT ws.drew w1.heap.size wr.heap.size y).cell? ⟨wr.heap.size, 1, none⟩ = some (.int .i64 x.tones[k].start) := fun y => (cell?_extT_hi (by simpa using zs) (Nat.le_refl _)).trans (by rw [hws]; simp [go_sem])
      have n2 : ∀ y, (extT ws.drew w1.heap.size wr.heap.size y).cell? ⟨wr.heap.size, 2, none⟩ = some (.int .i64 x.tones[k].len) := fun y => (cell?_extT_hi (by simpa using zs) (Nat.le_refl _)).trans (by rw [hws]; simp [go_sem])
      have HBs := Lib.hid (show Below wr.heap.size wr ws.drew by rw [hws]; exact Below.drew (belowA _ _))
      clear hlr
      go_wp2_with fail
      rw [← hws]
      clear hws
      refine wp_region_ord3 [(0, 1), (1, 1), (2, 1), (5, 1), (6, 1), (10, 1), (11, 1), (3, 4), (4, 1), (7, 4), (8, 1), (9, 1), (12, 4), (13, 1), (14, 4), (15, 0), (16, 1)] [3, 7, 12, 14, 15] [15] (w1.heap.size) (wr.heap.size) (by kernel_rfl) (by kernel_rfl) ?_
      (repeat ((first | with_reducible refine wpOrd3_soft (fun K hK => ?_) | with_reducible refine wpOrd3_pre (fun K hK => ?_) | with_reducible refine wpOrd3_late (fun K hK => ?_)); simp only [List.getElem?_toArray, List.getElem?_cons_zero, List.getElem?_cons_succ]; first | (go_simp; refine hK _ ?_) | (simp only [undef]; go_simp; refine hK _ ?_); clear hK K))
      ((first | with_reducible refine wpOrd3_hard ?_ | with_reducible refine wpOrd3_new ?_); simp only [List.getElem?_toArray, List.getElem?_cons_zero, List.getElem?_cons_succ])
      go_wp2_with fail
      refine (NoteName_any _ _ NK.out.1 (HT1.out.mono (HB.out.trans (HBs.out.mono hz)))).mono ?_
      rintro e w2 ⟨rfl, hb2⟩
      have G2 := Lib.hid (hb2)
      go_wp2_with fail
      refine ⟨grown_of_below G2.out, ?_⟩
      clear hb2
      (repeat ((first | with_reducible refine wpOrd3_soft (fun K hK => ?_) | with_reducible refine wpOrd3_pre (fun K hK => ?_) | with_reducible refine wpOrd3_late (fun K hK => ?_)); simp only [List.getElem?_toArray, List.getElem?_cons_zero, List.getElem?_cons_succ]; first | (go_simp; refine hK _ ?_) | (simp only [undef]; go_simp; refine hK _ ?_); clear hK K))
      ((first | with_reducible refine wpOrd3_hard ?_ | with_reducible refine wpOrd3_new ?_); simp only [List.getElem?_toArray, List.getElem?_cons_zero, List.getElem?_cons_succ])
      go_wp2_with fail
      refine (Decimal_any _ _ NK.out.2.1 (HT1.out.mono (HB.out.trans ((HBs.out.trans (G2.out.mono HBs.out.size)).mono hz)))).mono ?_
      rintro e w3 ⟨rfl, hb3⟩
      have G3 := Lib.hid (G2.out.trans (hb3.mono G2.out.size))
      go_wp2_with fail
      refine ⟨grown_of_below G3.out, ?_⟩
      clear hb3
      (repeat ((first | with_reducible refine wpOrd3_soft (fun K hK => ?_) | with_reducible refine wpOrd3_pre (fun K hK => ?_) | with_reducible refine wpOrd3_late (fun K hK => ?_)); simp only [List.getElem?_toArray, List.getElem?_cons_zero, List.getElem?_cons_succ]; first | (go_simp; refine hK _ ?_) | (simp only [undef]; go_simp; refine hK _ ?_); clear hK K))
      ((first | with_reducible refine wpOrd3_hard ?_ | with_reducible refine wpOrd3_new ?_); simp only [List.getElem?_toArray, List.getElem?_cons_zero, List.getElem?_cons_succ])
      go_wp2_with fail
      refine (Decimal_any _ _ NK.out.2.2 (HT1.out.mono (HB.out.trans ((HBs.out.trans (G3.out.mono HBs.out.size)).mono hz)))).mono ?_
      rintro e w4 ⟨rfl, hb4⟩
      have G4 := Lib.hid (G3.out.trans (hb4.mono G3.out.size))
      go_wp2_with fail
      refine ⟨grown_of_below G4.out, ?_⟩
      clear hb4
      (repeat ((first | with_reducible refine wpOrd3_soft (fun K hK => ?_) | with_reducible refine wpOrd3_pre (fun K hK => ?_) | with_reducible refine wpOrd3_late (fun K hK => ?_)); simp only [List.getElem?_toArray, List.getElem?_cons_zero, List.getElem?_cons_succ]; first | (go_simp; refine hK _ ?_) | (simp only [undef]; go_simp; refine hK _ ?_); clear hK K))
      rw [HE.out]
      ((first | with_reducible refine wpOrd3_hard ?_ | with_reducible refine wpOrd3_new ?_); simp only [List.getElem?_toArray, List.getElem?_cons_zero, List.getElem?_cons_succ])
      go_wp2_with fail
      refine And.intro (grown_of_below (G4.out.trans ((belowA w4 _).mono G4.out.size))) ?_
      (repeat ((first | with_reducible refine wpOrd3_soft (fun K hK => ?_) | with_reducible refine wpOrd3_pre (fun K hK => ?_) | with_reducible refine wpOrd3_late (fun K hK => ?_)); simp only [List.getElem?_toArray, List.getElem?_cons_zero, List.getElem?_cons_succ]; first | (go_simp; refine hK _ ?_) | (simp only [undef]; go_simp; refine hK _ ?_); clear hK K))
      ((first | with_reducible refine wpOrd3_hard ?_ | with_reducible refine wpOrd3_new ?_); simp only [List.getElem?_toArray, List.getElem?_cons_zero, List.getElem?_cons_succ])
      have GB := Lib.hid (HBs.out.trans (G4.out.mono HBs.out.size))
      have zg := GB.out.size
      obtain ⟨wd, hwd⟩ : ∃ wd : World, wd = w4.alloc (.cells #[.string (bytesB (tonL x.tones[k]))] 9) := ⟨_, rfl⟩
      have GD := Lib.hid (show Below ws.drew.heap.size ws.drew wd by rw [hwd]; exact G4.out.trans ((belowA w4 _).mono G4.out.size))
      have BD := Lib.hid (show Below wr.heap.size wr wd by rw [hwd]; exact GB.out.trans ((belowA w4 _).mono zg))
      have hsl : Sl wd (.slice (some ⟨w4.heap.size, 0, none⟩) 1 1) 1 [.string (bytesB (tonL x.tones[k]))] := by
        rw [hwd]
        exact Sl.of_owns (owns_lit1T w4 [.string (bytesB (tonL x.tones[k]))] _ 1 0 rfl (Nat.zero_le _) (by simp [maxLen]))
      have zd := BD.out.size
      have HOd := Lib.hid (owns_mono HO.out BD.out)
      rw [← hwd]
      refine append_all rfl _ _ 52 rfl w1.heap.size 9 (.string ⟨#[]⟩) 1 16 Tryz.underlying52 info_str rfl (by decide) _ n _ rfl HOd.out _ 1 [.string (bytesB (tonL x.tones[k]))] rfl hsl rfl (by simp [Value.oneCell']) (by omega) (by decide) (by omega) ?_
      intro a7 c7 w7 ho7 hg7 hb7
      have hz7 := hg7.size
      have HN7 := Lib.hid (show w7.ownsRow w1.heap.size 9 1 (.slice a7 (n + 1) c7) (n + 1) ((tunW x (k + 1)).map Value.string) from by rw [HS.out, List.map_append]; exact ho7)
      have HB7 := Lib.hid ((HB.out.trans (BD.out.mono hz)).trans hb7)
      have HT7 := Lib.hid (show Touch w1.heap.size wr.heap.size ws.drew w7 from (touch_row (grown_of_below GD.out)).trans (Touch.of_grown hg7 fun q hq => by have := HO.out.lt q hq; omega))
      clear ho7 hg7 hb7 hsl hwd n0 n1 n2 HOd
      refine And.intro HT7.out ?_
      (repeat ((first | with_reducible refine wpOrd3_soft (fun K hK => ?_) | with_reducible refine wpOrd3_pre (fun K hK => ?_) | with_reducible refine wpOrd3_late (fun K hK => ?_)); simp only [List.getElem?_toArray, List.getElem?_cons_zero, List.getElem?_cons_succ]; first | (go_simp; refine hK _ ?_) | (simp only [undef]; go_simp; refine hK _ ?_); clear hK K))
      (with_reducible refine wpOrd3_nil ?_); refine NoPanic.normal ?_
      go_wp2
      go_roundw
      case rel => exact ⟨k + 1, n + 1, a7, c7, by omega, by have := HN.out; omega, by go_num, rfl, HN7.out, HB7.out⟩
      case measure => simp [intOf] <;> omega
    · obtain rfl : k = x.tones.length := by omega
      have ho := HO.out
      obtain ⟨g, e, hg⟩ : ∃ g, a' = some ⟨g, 0, none⟩ ∧ n ≤ c' := by
        rcases ho.2 with ⟨e, h0⟩ | ⟨g, cap, cur, e, _, _, hc, _⟩
        · have := HN.out; omega
        · simp only [Value.slice.injEq] at e
          exact ⟨g, e.1, by omega⟩
      subst e
      have hglt := (ho.lt g rfl).2
      have hml : (tunW x x.tones.length).length = n := (tunW_len x (Nat.le_refl _)).trans HN.out.symm
      have hcl : ∀ (j : Nat) s, (tunW x x.tones.length)[j]? = some s → wr.cell? ⟨g, 0 + j, none⟩ = some (.string s) := fun j s hs => by
        have hj : j < n := by rw [← hml]; exact (List.getElem?_eq_some_iff.1 hs).1
        rw [Nat.zero_add, ho.cellAt j (by omega)]
        rw [List.getElem?_map, hs]; rfl
      have hcl2 := tunOk_len HK.out (Nat.le_refl x.tones.length)
      rw [List.take_length] at hcl2
      have hjo := tunW_join x
      have hj := Tryz.strings_Join g 0 c' (tunW x x.tones.length) ⟨#[32]⟩ wr hcl hglt (by rw [hml]; omega) (by rw [hml]; exact hg) (by rw [show (⟨#[32]⟩ : ByteArray).data.toList = [32] from rfl, hjo]; omega)
      rw [show (⟨#[32]⟩ : ByteArray).data.toList = [32] from rfl, hjo, hml] at hj
      have HJ := Lib.hid hj
      clear ho hcl hjo hcl2 hml hj hglt hg hlr
      go_wp2_with fail
      refine HJ.out.mono ?_
      rintro e w3 ⟨rfl, hb3⟩
      have HB3 := Lib.hid (HB1.out.trans ((HB.out.trans (hb3.mono hz)).mono (by omega)))
      clear hb3
      go_wp2
      go_ret
      exact ⟨by rw [E.out]; rfl, HB3.out⟩

end Go.Proofs.YtgdfecnpkjnhnaaGreatDoor
/- Texts compared. -/
set_option linter.unusedSimpArgs false
namespace Go.Proofs.YtgdfecnpkjnhnaaGreatDoor
open Go.RowKit
theorem strEq_inj {a b : ByteArray} (h : a.toList = b.toList) : a = b := by
  rw [ByteArray.toList_eq, ByteArray.toList_eq] at h
  cases a; cases b; simp only at h
  congr 1
  exact Array.toList_inj.1 h
theorem strEq (a b : ByteArray) : (a.toList == b.toList) = decide (a = b) := by
  by_cases h : a = b
  · subst h; simp
  · have : a.toList ≠ b.toList := fun e => h (strEq_inj e)
    simp [h, this]
end Go.Proofs.YtgdfecnpkjnhnaaGreatDoor
/- Both packages look for a note by its name. Contracts of NoteNamed. -/
set_option linter.unusedSimpArgs false
set_option linter.unnecessarySimpa false
set_option linter.unusedVariables false
set_option maxRecDepth 100000
namespace Go.Proofs.YtgdfecnpkjnhnaaGreatDoor
open Go.RowKit

theorem nn_hit {k : Nat} {p : List UInt8} (hk : k ≤ 127) (h : noteL k = p) : decide (nnB p) = true ∧ nnV p = k := by
  subst h
  exact ⟨decide_eq_true (nn_yes hk).1, (nn_yes hk).2⟩
theorem nn_miss {p : List UInt8} (h : ∀ j : Nat, j < 128 → noteL j ≠ p) : decide (nnB p) = false ∧ nnV p = 0 := by
  have hn : ¬ nnB p := fun ⟨n, hn, e⟩ => h n (by omega) e
  exact ⟨decide_eq_false hn, nn_no hn⟩
theorem note_eq {k : Nat} {p : List UInt8} : ((noteT k).toList == (bytesB p).toList) = decide (noteL k = p) := by
  rw [strEq]
  by_cases h : noteL k = p
  · subst h; simp [noteT]
  · rw [decide_eq_false h]
    refine decide_eq_false fun e => h ?_
    unfold noteT at e
    exact bytesB_inj e

set_option maxHeartbeats 1000000 in
theorem implNoteNamed_any (p : List UInt8) (w : World) (ht : Tab w) :
    Calls Tryz.prog 26 #[.string (bytesB p)] w fun e w' => e = .returned (.tuple #[.int .i64 (nnV p), .bool (decide (nnB p))]) ∧ Below w.heap.size w w' := by
  obtain ⟨s, hs⟩ : ∃ s, s = bytesB p := ⟨_, rfl⟩
  have HS := Lib.hid hs
  have HT := Lib.hid ht
  rw [← hs]
  clear hs ht
  go_enter Tryz.func26, Tryz.ntmps26
  go_wp2_with fail
  go_loopw [4, 5] (fun _ i wr => ∃ k : Nat, k ≤ 128 ∧ i = .int .i64 (k : Int) ∧ (∀ j : Nat, j < k → noteL j ≠ p) ∧ Below w.heap.size w wr) (fun _ i _ => 128 - (intOf i).toNat)
  case atStart => exact ⟨0, by omega, by go_num, fun j hj => by omega, Below.refl _ _⟩
  case round =>
    obtain ⟨k, hk, rfl, hm, hb⟩ := hrel
    have HM := Lib.hid hm; have HB := Lib.hid hb
    have hz := hb.size
    clear hm hb
    by_cases hlt : k < 128
    · have d1 : decide ((k : Int) < 128) = true := by simp; omega
      have d3 : decide (k < 128) = true := by simp; omega
      have hn : noteOk (k : Int) := by unfold noteOk; omega
      have HNO := Lib.hid hn
      clear hn
      by_cases he : noteL k = p
      · have HR := Lib.hid (nn_hit (by omega) he)
        have HE := Lib.hid (show ((noteT k).toList == s.toList) = true by rw [HS.out, note_eq]; exact decide_eq_true he)
        clear he
        go_wp2_with fail
        refine (NoteName_any (k : Int) _ HNO.out (HT.out.mono HB.out)).mono ?_
        rw [Int.toNat_natCast]
        rintro e w1 ⟨rfl, hb1⟩
        have HB1 := Lib.hid (HB.out.trans (hb1.mono hz))
        have he := HE.out
        clear hb1
        go_wp2
        go_ret2
        exact ⟨by rw [HR.out.1, HR.out.2]; rfl, HB1.out⟩
      · have HE := Lib.hid (show ((noteT k).toList == s.toList) = false by rw [HS.out, note_eq]; exact decide_eq_false he)
        have HM1 := Lib.hid (show ∀ j : Nat, j < k + 1 → noteL j ≠ p from fun j hj => by
          by_cases e : j = k
          · subst e; exact he
          · exact HM.out j (by omega))
        clear he
        go_wp2_with fail
        refine (NoteName_any (k : Int) _ HNO.out (HT.out.mono HB.out)).mono ?_
        rw [Int.toNat_natCast]
        rintro e w1 ⟨rfl, hb1⟩
        have HB1 := Lib.hid (HB.out.trans (hb1.mono hz))
        have he := HE.out
        clear hb1
        go_wp2
        go_roundw
        case rel => exact ⟨k + 1, by omega, by go_num, HM1.out, HB1.out⟩
        case measure => simp [intOf] <;> omega
    · obtain rfl : k = 128 := by omega
      have HR := Lib.hid (nn_miss HM.out)
      go_wp2
      go_ret2
      exact ⟨by rw [HR.out.1, HR.out.2]; rfl, HB.out⟩

end Go.Proofs.YtgdfecnpkjnhnaaGreatDoor
/- The reference cuts a text at each of a byte. Contract of l01Split. -/
set_option linter.unusedSimpArgs false
set_option linter.unnecessarySimpa false
set_option linter.unusedVariables false
set_option maxRecDepth 100000
namespace Go.Proofs.YtgdfecnpkjnhnaaGreatDoor
open Go.RowKit

theorem info_string : (Tryz.prog.info? 9).map (fun i => (i.zero, i.size, i.bytes)) = some (some (.string ⟨#[]⟩), 1, 16) := by kernel_rfl
/-- v is a row of the call's own that holds these texts. -/
def Pcs (B : Nat) (w : World) (v : Value) (ps : List (List UInt8)) : Prop := ∃ a c, v = .slice a ps.length c ∧ w.ownsRow B 9 1 v ps.length (ps.map fun p => Value.string (bytesB p))
theorem Pcs.mono {B : Nat} {w w' : World} {v : Value} {ps : List (List UInt8)} (h : Pcs B w v ps) (hb : Below w.heap.size w w') : Pcs B w' v ps := by
  obtain ⟨a, c, rfl, h⟩ := h
  exact ⟨a, c, rfl, owns_mono h hb⟩
theorem extr (s : ByteArray) (f i : Nat) : s.extract f i = bytesB ((s.data.toList.take i).drop f) := by
  rw [← bytesB_of (s.extract f i)]
  congr 1
  rw [Lib.extract_data, List.drop_take]

end Go.Proofs.YtgdfecnpkjnhnaaGreatDoor
/- What the walks ask of the library's variables: the table of powers of ten, the length MaxLen, the two errors of reading a number. -/
set_option linter.unusedSimpArgs false
set_option linter.unnecessarySimpa false
set_option linter.unusedVariables false
set_option maxRecDepth 100000
namespace Go.Proofs.YtgdfecnpkjnhnaaGreatDoor
open Go.RowKit

structure Lay (w : World) : Prop where
  tab : Tab w
  len : ∃ m, w.cell? ⟨0, 0, none⟩ = some (.int .i64 m)
  bad : ∃ ev, w.cell? ⟨1, 0, none⟩ = some ev ∧ (ev = .nilIface ∨ ∃ te pe, ev = .iface te pe)
  far : ∃ ev, w.cell? ⟨2, 0, none⟩ = some ev ∧ (ev = .nilIface ∨ ∃ te pe, ev = .iface te pe)
theorem Lay.mono {w w' : World} (h : Lay w) (hb : Below w.heap.size w w') : Lay w' :=
  ⟨h.tab.mono hb, h.len.imp fun _ h => cellB hb h, h.bad.imp fun _ h => ⟨cellB hb h.1, h.2⟩, h.far.imp fun _ h => ⟨cellB hb h.1, h.2⟩⟩
end Go.Proofs.YtgdfecnpkjnhnaaGreatDoor
/- Rows of texts, as both packages cut them. -/
set_option linter.unusedSimpArgs false
set_option linter.unnecessarySimpa false
set_option linter.unusedVariables false
set_option maxRecDepth 100000
namespace Go.Proofs.YtgdfecnpkjnhnaaGreatDoor
open Go.RowKit

/-- v reads as the texts ps, in the block g. -/
def Txt (w : World) (v : Value) (ps : List (List UInt8)) : Prop := ∃ g c, v = .slice (some ⟨g, 0, none⟩) ps.length c ∧ ps.length ≤ c ∧ ∀ j (hj : j < ps.length), w.cell? ⟨g, j, none⟩ = some (.string (bytesB ps[j]))
theorem Txt.mono {w w' : World} {v : Value} {ps : List (List UInt8)} (h : Txt w v ps) (hb : Below w.heap.size w w') : Txt w' v ps := by
  obtain ⟨g, c, rfl, hc, h⟩ := h
  exact ⟨g, c, rfl, hc, fun j hj => cellB hb (h j hj)⟩
theorem Pcs.txt {B : Nat} {w : World} {v : Value} {ps : List (List UInt8)} (h : Pcs B w v ps) (hne : ps ≠ []) : Txt w v ps := by
  obtain ⟨a, c, rfl, ho⟩ := h
  have hpos := List.length_pos_iff.2 hne
  obtain ⟨g, e, hg⟩ : ∃ g, a = some ⟨g, 0, none⟩ ∧ ps.length ≤ c := by
    rcases ho.2 with ⟨e, h0⟩ | ⟨g, cap, cur, e, _, _, hc, _⟩
    · omega
    · simp only [Value.slice.injEq] at e
      exact ⟨g, e.1, by omega⟩
  subst e
  refine ⟨g, c, rfl, hg, fun j hj => ?_⟩
  rw [ho.cellAt j (by omega)]
  simp [hj]
/-- The program's way to cut. -/
theorem split_any (s : ByteArray) (c : UInt8) (w : World) (hs : s.size ≤ 1048576) (hL : Lay w) :
    Calls Tryz.prog 24 #[.string s, .string ⟨#[c]⟩] w fun e w' => ∃ v, e = .returned v ∧ Txt w' v (splitC c s.data.toList) ∧ Below w.heap.size w w' := by
  obtain ⟨m, hm⟩ := hL.len
  refine (Tryz.strings_Split s ⟨#[c]⟩ m w (by omega) hm (by exact Nat.le_refl 1)).mono ?_
  rintro e w' ⟨rfl, rfl⟩
  rw [splitB_eq, countB_eq]
  refine ⟨_, rfl, ⟨w.heap.size, _, rfl, Nat.le_refl _, fun j hj => ?_⟩, belowA _ _⟩
  simp [go_sem, hj]
theorem piece_size {c : UInt8} {s : ByteArray} {p : List UInt8} (h : p ∈ splitC c s.data.toList) (hs : s.size ≤ 1048576) : (bytesB p).size ≤ 1048576 := by
  rw [bytesB_size]
  have := piece_len (c := c) _ p h
  have e : s.data.toList.length = s.size := by cases s; rfl
  omega

end Go.Proofs.YtgdfecnpkjnhnaaGreatDoor
