/- The program's text of a tune. Contracts of NoteName and TuneText. -/
import Derived.Test.YtgdfecnpkjnhnaaDoorTunS
import Derived.Test.YtgdfecnpkjnhnaaDoorListI
import Derived.Test.YtgdfecnpkjnhnaaDoorReg3
set_option linter.unusedSimpArgs false
set_option linter.unnecessarySimpa false
set_option linter.unusedVariables false
set_option maxRecDepth 100000
namespace Go.Proofs.YtgdfecnpkjnhnaaDoor
open Go.RowKit

set_option maxHeartbeats 2000000 in
theorem NoteName_any (n : Int) (w : World) (h : noteOk n) (ht : Tab w) :
    Calls Tryd.prog 38 #[.int .i64 n] w fun e w' => e = .returned (.string (noteT n.toNat)) ∧ Below w.heap.size w w' := by
  obtain ⟨m, q, hm, hq, t1, t2, e⟩ := note_parts h
  have HV := Lib.hid (show true = decide (noteOk n) from (decide_eq_true h).symm)
  have HE := Lib.hid e
  have N0 := fun y => (show (ext (w.alloc (.cells #[.string ⟨#[99]⟩, .string ⟨#[99, 115]⟩, .string ⟨#[100]⟩, .string ⟨#[100, 115]⟩, .string ⟨#[101]⟩, .string ⟨#[102]⟩, .string ⟨#[102, 115]⟩, .string ⟨#[103]⟩, .string ⟨#[103, 115]⟩, .string ⟨#[97]⟩, .string ⟨#[97, 115]⟩, .string ⟨#[98]⟩] 9)).drew none y).cell? ⟨w.heap.size, m, none⟩ = some (.string (nameAt m)) from (cell?_ext (by simp) (by simp)).trans (nameAt_cell w _ hm))
  have hs := nameAt_size hm
  have d1 : decide ((m : Int) < 12) = true := by simp; omega
  have d2 : decide (m < 12) = true := by simp; omega
  have d3 : (m : Int) < 12 := by omega
  have hd := decB_size (q := (q : Int) - 1) (small64 (by omega) (by omega))
  have k1 : (9223372036854775807 < (nameAt m).size + (decB ((q : Int) - 1)).size) = False := eq_false (by omega)
  clear h e
  go_enter Tryd.func38, Tryd.ntmps38
  go_wp2_with fail
  refine (isNote_any true n _ HV.out).mono ?_
  rintro e w0 ⟨rfl, rfl⟩
  go_wp2_with fail
  refine wp_region_ordG [(0, 1), (1, 1), (2, 1), (3, 1), (4, 1), (5, 1), (6, 1), (7, 1), (8, 0), (9, 1), (10, 1)] [8] (none) (by kernel_rfl) (by kernel_rfl) ?_
  (repeat ((first | with_reducible refine wpOrdG_soft (fun K hK => ?_) | with_reducible refine wpOrdG_pre (fun K hK => ?_)); simp only [List.getElem?_toArray, List.getElem?_cons_zero, List.getElem?_cons_succ]; first | (go_simp; refine hK _ ?_) | (simp only [undef]; go_simp; refine hK _ ?_); clear hK K))
  (with_reducible refine wpOrdG_hard ?_; simp only [List.getElem?_toArray, List.getElem?_cons_zero, List.getElem?_cons_succ])
  go_wp2_with fail
  refine (Decimal_any _ _ (small64 (by omega) (by omega)) (ht.mono (Below.drew (belowA w0 _)))).mono ?_
  rintro e w1 ⟨rfl, hb1⟩
  have HB := Lib.hid (below_new hb1)
  go_wp2_with fail
  refine ⟨grown_of_below hb1, ?_⟩
  clear hb1
  (repeat ((first | with_reducible refine wpOrdG_soft (fun K hK => ?_) | with_reducible refine wpOrdG_pre (fun K hK => ?_)); simp only [List.getElem?_toArray, List.getElem?_cons_zero, List.getElem?_cons_succ]; first | (go_simp; refine hK _ ?_) | (simp only [undef]; go_simp; refine hK _ ?_); clear hK K))
  (with_reducible refine wpOrdG_nil ?_); refine NoPanic.normal ?_
  go_wp2
  go_ret
  exact ⟨by rw [← HE.out]; rfl, HB.out⟩

theorem owns_lit1T (w : World) (cs : List Value) (e : TypeId) (n base : Nat) (hn : cs.length = n) (h : base ≤ w.heap.size) (hm : n ≤ maxLen) : (w.alloc (.cells cs.toArray e)).ownsRow base e 1 (.slice (some ⟨w.heap.size, 0, none⟩) n n) n cs := by
  subst hn
  exact ⟨by simp, .inr ⟨w.heap.size, cs.length, cs.toArray, rfl, h, heap_alloc_new w _, Nat.le_refl _, hm, by simp, by simp⟩⟩
def tunW (x : TunD) (k : Nat) : List ByteArray := x.name :: (x.tones.take k).map fun t => bytesB (tonL t)
theorem tunW_len (x : TunD) {k : Nat} (h : k ≤ x.tones.length) : (tunW x k).length = k + 1 := by unfold tunW; simp; omega
theorem tunW_step (x : TunD) {k : Nat} (h : k < x.tones.length) : tunW x (k + 1) = tunW x k ++ [bytesB (tonL x.tones[k])] := by
  unfold tunW
  rw [List.take_succ_eq_append_getElem h, List.map_append]; rfl
theorem tunW_join (x : TunD) : Lib.join ((tunW x x.tones.length).map (·.data.toList)) [32] = tunL x.name x.tones := by
  rw [← tunL_join]
  unfold tunW
  rw [List.take_length, List.map_cons, List.map_map]
  congr 2
  all_goals exact List.map_congr_left fun t _ => by simp [Function.comp, bytesB_list]

set_option maxHeartbeats 4000000 in
theorem implTuneText_any (v : Value) (x : TunD) (w : World) (h : RdTun w v x) (ok : x.ok) (_ : x.tones.length ≤ 1048576) (ht : Tab w) :
    Calls Tryd.prog 15 #[v] w fun e w' => e = .returned (.string (tunT x)) ∧ Below w.heap.size w w' := by
  obtain ⟨lv, rfl, hlv⟩ := h
  obtain ⟨a, ca, rfl, hca, hcm, _⟩ := id hlv
  have HN := Lib.hid ok.1
  have HLV := Lib.hid hlv
  clear hca hcm ok
  obtain ⟨b, hb⟩ : ∃ b, b = validTunB x := ⟨_, rfl⟩
  cases b
  · have E := Lib.hid (tunT_no hb.symm)
    have HV := Lib.hid hb.symm
    clear hb
    go_enter Tryd.func15, Tryd.ntmps15
    go_wp2_with fail
    refine (implValidTun_any _ (.slice a x.tones.length ca) x _ ⟨rfl, HLV.out.mono (belowA _ _)⟩ HN.out).mono ?_
    rw [HV.out]
    rintro e w1 ⟨rfl, hb1⟩
    have HB := Lib.hid (Below.trans (belowA w (.cells #[.string x.name, .slice a x.tones.length ca] 35)) (hb1.mono (by simp)))
    clear hb1
    go_wp2
    go_ret
    exact ⟨by rw [E.out]; rfl, HB.out⟩
  have E := Lib.hid (tunT_yes hb.symm)
  have HV := Lib.hid hb.symm
  have HK := Lib.hid (show TunOk x by have := hb.symm; simpa [validTunB] using this)
  have hl6 := HK.out.len
  clear hb
  go_enter Tryd.func15, Tryd.ntmps15
  go_wp2_with fail
  refine (implValidTun_any _ (.slice a x.tones.length ca) x _ ⟨rfl, HLV.out.mono (belowA _ _)⟩ HN.out).mono ?_
  rw [HV.out]
  rintro e w1 ⟨rfl, hb1⟩
  have hz1 := hb1.size
  simp at hz1
  have HB1 := Lib.hid (Below.trans (belowA w (.cells #[.string x.name, .slice a x.tones.length ca] 35)) (hb1.mono (by simp)))
  have y0 : w1.cell? ⟨w.heap.size, 0, none⟩ = some (.string x.name) := cellB hb1 (by simp [go_sem])
  have y1 : w1.cell? ⟨w.heap.size, 1, none⟩ = some (.slice a x.tones.length ca) := cellB hb1 (by simp [go_sem])
  have HLV1 := Lib.hid (HLV.out.mono HB1.out)
  have HT1 := Lib.hid (ht.mono HB1.out)
  have hw1 : w.heap.size < w1.heap.size := by omega
  have HO0 := Lib.hid (show (w1.alloc (.cells #[.string x.name] 9)).ownsRow w1.heap.size 9 1 (.slice (some ⟨w1.heap.size, 0, none⟩) 1 1) 1 ((tunW x 0).map Value.string) from
    owns_lit1T w1 [.string x.name] _ 1 _ rfl (Nat.le_refl _) (by simp [maxLen]))
  have z1 : (w1.alloc (.cells #[.string x.name] 9)).cell? ⟨w.heap.size, 1, none⟩ = some (.slice a x.tones.length ca) := cellB (belowA w1 _) y1
  clear hb1
  go_wp2_with fail
  go_loopw [3, 5, 15] (fun o _ i wr => ∃ (k n : Nat) (a' : Option Addr) (c' : Nat), k ≤ x.tones.length ∧ n = k + 1 ∧ i = .int .i64 (k : Int) ∧ o = .slice a' n c' ∧ wr.ownsRow w1.heap.size 9 1 (.slice a' n c') n ((tunW x k).map Value.string) ∧ Below w1.heap.size w1 wr) (fun _ _ i _ => x.tones.length - (intOf i).toNat)
  case atStart => exact ⟨0, 1, _, _, Nat.zero_le _, rfl, by go_num, rfl, HO0.out, belowA _ _⟩
  case round =>
    obtain ⟨k, n, a', c', hk, hn, rfl, rfl, ho, hbw⟩ := hrel
    have hz := hbw.size
    have HO := Lib.hid ho; have HB := Lib.hid hbw; have HN := Lib.hid hn
    have hlr := HLV1.out.mono hbw
    have hn15 : n ≤ 129 := by omega
    clear HO0 ho hbw hn
    by_cases hlt : k < x.tones.length
    · obtain ⟨b1, o1, rfl, hB1, u0, u1, u2⟩ := hlr.at hlt
      have HT := Lib.hid (HK.out.tones k hlt hlt).1
      have NK := Lib.hid (tonOk_nums HT.out)
      have HS := Lib.hid (tunW_step x hlt)
      have HE := Lib.hid (tonT_eq x.tones[k])
      obtain ⟨s1, s2, s3⟩ := tonOk_sizes HT.out
      have k1 : (9223372036854775807 < (noteT x.tones[k].note.toNat).size + 1) = False := eq_false (by omega)
      have k2 : (9223372036854775807 < (noteT x.tones[k].note.toNat).size + 1 + (decB x.tones[k].start).size) = False := eq_false (by omega)
      have k3 : (9223372036854775807 < (noteT x.tones[k].note.toNat).size + 1 + (decB x.tones[k].start).size + 1) = False := eq_false (by omega)
      have k4 : (9223372036854775807 < (noteT x.tones[k].note.toNat).size + 1 + (decB x.tones[k].start).size + 1 + (decB x.tones[k].len).size) = False := eq_false (by omega)
      obtain ⟨ws, hws⟩ : ∃ ws, ws = wr.alloc (.cells #[.int .i64 x.tones[k].note, .int .i64 x.tones[k].start, .int .i64 x.tones[k].len] 59) := ⟨_, rfl⟩
      have zs : wr.heap.size < ws.heap.size := by rw [hws]; simp
      have n0 : ∀ y, (extT ws.drew w1.heap.size wr.heap.size y).cell? ⟨wr.heap.size, 0, none⟩ = some (.int .i64 x.tones[k].note) := fun y => (cell?_extT_hi (by simpa using zs) (Nat.le_refl _)).trans (by rw [hws]; simp [go_sem])
      have n1 : ∀ y, (extT ws.drew w1.heap.size wr.heap.size y).cell? ⟨wr.heap.size, 1, none⟩ = some (.int .i64 x.tones[k].start) := fun y => (cell?_extT_hi (by simpa using zs) (Nat.le_refl _)).trans (by rw [hws]; simp [go_sem])
      have n2 : ∀ y, (extT ws.drew w1.heap.size wr.heap.size y).cell? ⟨wr.heap.size, 2, none⟩ = some (.int .i64 x.tones[k].len) := fun y => (cell?_extT_hi (by simpa using zs) (Nat.le_refl _)).trans (by rw [hws]; simp [go_sem])
      have HBs := Lib.hid (show Below wr.heap.size wr ws.drew by rw [hws]; exact Below.drew (belowA _ _))
      clear hlr
      go_wp2_with fail
      rw [← hws]
      clear hws
      refine wp_region_ord3 [(0, 1), (1, 1), (2, 1), (5, 1), (6, 1), (10, 1), (11, 1), (3, 4), (4, 1), (7, 4), (8, 1), (9, 1), (12, 4), (13, 1), (14, 4), (15, 0), (16, 1)] [3, 7, 12, 14, 15] [15] (w1.heap.size) (wr.heap.size) (by kernel_rfl) (by kernel_rfl) ?_
      (repeat ((first | with_reducible refine wpOrd3_soft (fun K hK => ?_) | with_reducible refine wpOrd3_pre (fun K hK => ?_) | with_reducible refine wpOrd3_late (fun K hK => ?_)); simp only [List.getElem?_toArray, List.getElem?_cons_zero, List.getElem?_cons_succ]; first | (go_simp; refine hK _ ?_) | (simp only [undef]; go_simp; refine hK _ ?_); clear hK K))
      ((first | with_reducible refine wpOrd3_hard ?_ | with_reducible refine wpOrd3_new ?_); simp only [List.getElem?_toArray, List.getElem?_cons_zero, List.getElem?_cons_succ])
      go_wp2_with fail
      refine (NoteName_any _ _ NK.out.1 (HT1.out.mono (HB.out.trans (HBs.out.mono hz)))).mono ?_
      rintro e w2 ⟨rfl, hb2⟩
      have G2 := Lib.hid (hb2)
      go_wp2_with fail
      refine ⟨grown_of_below G2.out, ?_⟩
      clear hb2
      (repeat ((first | with_reducible refine wpOrd3_soft (fun K hK => ?_) | with_reducible refine wpOrd3_pre (fun K hK => ?_) | with_reducible refine wpOrd3_late (fun K hK => ?_)); simp only [List.getElem?_toArray, List.getElem?_cons_zero, List.getElem?_cons_succ]; first | (go_simp; refine hK _ ?_) | (simp only [undef]; go_simp; refine hK _ ?_); clear hK K))
      ((first | with_reducible refine wpOrd3_hard ?_ | with_reducible refine wpOrd3_new ?_); simp only [List.getElem?_toArray, List.getElem?_cons_zero, List.getElem?_cons_succ])
      go_wp2_with fail
      refine (Decimal_any _ _ NK.out.2.1 (HT1.out.mono (HB.out.trans ((HBs.out.trans (G2.out.mono HBs.out.size)).mono hz)))).mono ?_
      rintro e w3 ⟨rfl, hb3⟩
      have G3 := Lib.hid (G2.out.trans (hb3.mono G2.out.size))
      go_wp2_with fail
      refine ⟨grown_of_below G3.out, ?_⟩
      clear hb3
      (repeat ((first | with_reducible refine wpOrd3_soft (fun K hK => ?_) | with_reducible refine wpOrd3_pre (fun K hK => ?_) | with_reducible refine wpOrd3_late (fun K hK => ?_)); simp only [List.getElem?_toArray, List.getElem?_cons_zero, List.getElem?_cons_succ]; first | (go_simp; refine hK _ ?_) | (simp only [undef]; go_simp; refine hK _ ?_); clear hK K))
      ((first | with_reducible refine wpOrd3_hard ?_ | with_reducible refine wpOrd3_new ?_); simp only [List.getElem?_toArray, List.getElem?_cons_zero, List.getElem?_cons_succ])
      go_wp2_with fail
      refine (Decimal_any _ _ NK.out.2.2 (HT1.out.mono (HB.out.trans ((HBs.out.trans (G3.out.mono HBs.out.size)).mono hz)))).mono ?_
      rintro e w4 ⟨rfl, hb4⟩
      have G4 := Lib.hid (G3.out.trans (hb4.mono G3.out.size))
      go_wp2_with fail
      refine ⟨grown_of_below G4.out, ?_⟩
      clear hb4
      (repeat ((first | with_reducible refine wpOrd3_soft (fun K hK => ?_) | with_reducible refine wpOrd3_pre (fun K hK => ?_) | with_reducible refine wpOrd3_late (fun K hK => ?_)); simp only [List.getElem?_toArray, List.getElem?_cons_zero, List.getElem?_cons_succ]; first | (go_simp; refine hK _ ?_) | (simp only [undef]; go_simp; refine hK _ ?_); clear hK K))
      rw [HE.out]
      ((first | with_reducible refine wpOrd3_hard ?_ | with_reducible refine wpOrd3_new ?_); simp only [List.getElem?_toArray, List.getElem?_cons_zero, List.getElem?_cons_succ])
      go_wp2_with fail
      refine And.intro (grown_of_below (G4.out.trans ((belowA w4 _).mono G4.out.size))) ?_
      (repeat ((first | with_reducible refine wpOrd3_soft (fun K hK => ?_) | with_reducible refine wpOrd3_pre (fun K hK => ?_) | with_reducible refine wpOrd3_late (fun K hK => ?_)); simp only [List.getElem?_toArray, List.getElem?_cons_zero, List.getElem?_cons_succ]; first | (go_simp; refine hK _ ?_) | (simp only [undef]; go_simp; refine hK _ ?_); clear hK K))
      ((first | with_reducible refine wpOrd3_hard ?_ | with_reducible refine wpOrd3_new ?_); simp only [List.getElem?_toArray, List.getElem?_cons_zero, List.getElem?_cons_succ])
      have GB := Lib.hid (HBs.out.trans (G4.out.mono HBs.out.size))
      have zg := GB.out.size
      obtain ⟨wd, hwd⟩ : ∃ wd : World, wd = w4.alloc (.cells #[.string (bytesB (tonL x.tones[k]))] 9) := ⟨_, rfl⟩
      have GD := Lib.hid (show Below ws.drew.heap.size ws.drew wd by rw [hwd]; exact G4.out.trans ((belowA w4 _).mono G4.out.size))
      have BD := Lib.hid (show Below wr.heap.size wr wd by rw [hwd]; exact GB.out.trans ((belowA w4 _).mono zg))
      have hsl : Sl wd (.slice (some ⟨w4.heap.size, 0, none⟩) 1 1) 1 [.string (bytesB (tonL x.tones[k]))] := by
        rw [hwd]
        exact Sl.of_owns (owns_lit1T w4 [.string (bytesB (tonL x.tones[k]))] _ 1 0 rfl (Nat.zero_le _) (by simp [maxLen]))
      have zd := BD.out.size
      have HOd := Lib.hid (owns_mono HO.out BD.out)
      rw [← hwd]
      refine append_all rfl _ _ 22 rfl w1.heap.size 9 (.string ⟨#[]⟩) 1 16 Tryd.underlying22 info_str rfl (by decide) _ n _ rfl HOd.out _ 1 [.string (bytesB (tonL x.tones[k]))] rfl hsl rfl (by simp [Value.oneCell']) (by omega) (by decide) (by omega) ?_
      intro a7 c7 w7 ho7 hg7 hb7
      have hz7 := hg7.size
      have HN7 := Lib.hid (show w7.ownsRow w1.heap.size 9 1 (.slice a7 (n + 1) c7) (n + 1) ((tunW x (k + 1)).map Value.string) from by rw [HS.out, List.map_append]; exact ho7)
      have HB7 := Lib.hid ((HB.out.trans (BD.out.mono hz)).trans hb7)
      have HT7 := Lib.hid (show Touch w1.heap.size wr.heap.size ws.drew w7 from (touch_row (grown_of_below GD.out)).trans (Touch.of_grown hg7 fun q hq => by have := HO.out.lt q hq; omega))
      clear ho7 hg7 hb7 hsl hwd n0 n1 n2 HOd
      refine And.intro HT7.out ?_
      (repeat ((first | with_reducible refine wpOrd3_soft (fun K hK => ?_) | with_reducible refine wpOrd3_pre (fun K hK => ?_) | with_reducible refine wpOrd3_late (fun K hK => ?_)); simp only [List.getElem?_toArray, List.getElem?_cons_zero, List.getElem?_cons_succ]; first | (go_simp; refine hK _ ?_) | (simp only [undef]; go_simp; refine hK _ ?_); clear hK K))
      (with_reducible refine wpOrd3_nil ?_); refine NoPanic.normal ?_
      go_wp2
      go_roundw
      case rel => exact ⟨k + 1, n + 1, a7, c7, by omega, by have := HN.out; omega, by go_num, rfl, HN7.out, HB7.out⟩
      case measure => simp [intOf] <;> omega
    · obtain rfl : k = x.tones.length := by omega
      have ho := HO.out
      obtain ⟨g, e, hg⟩ : ∃ g, a' = some ⟨g, 0, none⟩ ∧ n ≤ c' := by
        rcases ho.2 with ⟨e, h0⟩ | ⟨g, cap, cur, e, _, _, hc, _⟩
        · have := HN.out; omega
        · simp only [Value.slice.injEq] at e
          exact ⟨g, e.1, by omega⟩
      subst e
      have hglt := (ho.lt g rfl).2
      have hml : (tunW x x.tones.length).length = n := (tunW_len x (Nat.le_refl _)).trans HN.out.symm
      have hcl : ∀ (j : Nat) s, (tunW x x.tones.length)[j]? = some s → wr.cell? ⟨g, 0 + j, none⟩ = some (.string s) := fun j s hs => by
        have hj : j < n := by rw [← hml]; exact (List.getElem?_eq_some_iff.1 hs).1
        rw [Nat.zero_add, ho.cellAt j (by omega)]
        rw [List.getElem?_map, hs]; rfl
      have hcl2 := tunOk_len HK.out (Nat.le_refl x.tones.length)
      rw [List.take_length] at hcl2
      have hjo := tunW_join x
      have hj := Tryd.strings_Join g 0 c' (tunW x x.tones.length) ⟨#[32]⟩ wr hcl hglt (by rw [hml]; omega) (by rw [hml]; exact hg) (by rw [show (⟨#[32]⟩ : ByteArray).data.toList = [32] from rfl, hjo]; omega)
      rw [show (⟨#[32]⟩ : ByteArray).data.toList = [32] from rfl, hjo, hml] at hj
      have HJ := Lib.hid hj
      clear ho hcl hjo hcl2 hml hj hglt hg hlr
      go_wp2_with fail
      refine HJ.out.mono ?_
      rintro e w3 ⟨rfl, hb3⟩
      have HB3 := Lib.hid (HB1.out.trans ((HB.out.trans (hb3.mono hz)).mono (by omega)))
      clear hb3
      go_wp2
      go_ret
      exact ⟨by rw [E.out]; rfl, HB3.out⟩

end Go.Proofs.YtgdfecnpkjnhnaaDoor
