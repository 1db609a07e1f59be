import Derived.Test.YtemmnjokojgjaaaFfZ12
import Derived.Test.YtemmnjokojgjaaaFfZ11
import Derived.Test.YtemmnjokojgjaaaFfZ5
import Derived.Test.YtemmnjokojgjaaaFfZ1
import Derived.Test.YtemmnjokojgjaaaFfZ6
/- Contract of spec.l26Arrange. -/
set_option linter.unusedSimpArgs false
set_option linter.unnecessarySimpa false
set_option linter.unusedVariables false
set_option maxRecDepth 100000
namespace Go.Proofs.Ytemmnjokojgjaaa
open Go.RowKit

theorem snB_s {t y : Ton} (h : ¬ y.start = t.start) : snB t y = false := by unfold snB; rw [decide_eq_false h]; rfl
theorem snB_n {t y : Ton} (h : ¬ y.note = t.note) : snB t y = false := by unfold snB; rw [decide_eq_false h]; simp
theorem grown_cell1 (w : World) (q o : Nat) (u : Value) : w.grownBy (w.setCell ⟨q, o, none⟩ u) (some q) := ⟨rfl, rfl, rfl, by simp [World.setCell], fun k _ hk => Below.heap_setCell _ _ _ _ (fun e => hk (by simp [e]))⟩
/-- What the search for a tone says after m tones: none, or which. -/
def LastSN (t : Ton) (d : List Ton) (m : Nat) (r : Int) : Prop := (r = -1 ∧ ∀ i (hi : i < d.length), i < m → snB t d[i] = false) ∨ ∃ (j : Nat) (hj : j < d.length), j < m ∧ r = (j : Int) ∧ snB t d[j] = true
theorem last_no {t : Ton} {d : List Ton} {m : Nat} {r : Int} (h : LastSN t d m r) (hm : m < d.length) (hs : snB t d[m] = false) : LastSN t d (m + 1) r := by
  rcases h with ⟨h1, h2⟩ | ⟨j, hj, h1, h2, h3⟩
  · refine .inl ⟨h1, fun i hi hm' => ?_⟩
    by_cases e : i = m
    · subst e; exact hs
    · exact h2 i hi (by omega)
  · exact .inr ⟨j, hj, by omega, h2, h3⟩
theorem last_yes {t : Ton} {d : List Ton} {m : Nat} {r : Int} (h : LastSN t d m r) (hm : m < d.length) (hs : snB t d[m] = true) : LastSN t d (m + 1) (m : Int) := .inr ⟨m, hm, by omega, rfl, hs⟩

set_option maxHeartbeats 4000000 in
theorem l26Arrange_any (kb : Nat) (lv v : Value) (x : TunD) (ns : List Int) (b : Int) (w : World) (h : TunIn w kb lv x) (hn : Ints w v ns) (ok : validTunB x = true) (hset : SetIn ns) (hs : shiftIn b) :
    Calls Try.prog 42 #[.pointer (some ⟨kb, 0, none⟩), v, .int .i64 b] w fun e w' => ∃ v', e = .returned (.tuple #[v', .int .i64 (arM x ns b), .int .i64 (arD x ns b)]) ∧ OwnTun w.heap.size w'.heap.size w' v' (arT x ns b) ∧ Below w.heap.size w w' := by
  obtain ⟨kc0, kc1, hlv, hnm⟩ := h
  obtain ⟨a, ca, rfl, hca, hcm, _⟩ := id hlv
  obtain ⟨a9, c9, rfl, _, _, _⟩ := id hn
  clear hca hcm
  have hkb := World.block_lt_of_cell? w _ kc0
  simp only at hkb
  have hln := tun_len ok
  have OK := Lib.hid ok
  have HSET := Lib.hid hset
  have AOK := Lib.hid (fun k => ar_ok (b := b) hset (ts := x.tones) (fun y hy => by obtain ⟨k, hk, rfl⟩ := List.getElem_of_mem hy; exact tun_tone ok hk) k)
  obtain ⟨sb1, sb2⟩ := hs
  clear ok hset
  go_enter Try.func42, Try.ntmps42
  go_wp2_with fail
  obtain ⟨w2, hw2⟩ : ∃ w2 : World, w2 = ((w.alloc (.cells #[.string ⟨#[]⟩, .slice none 0 0] 29)).alloc (.cells #[] 92)).alloc (.cells #[] 4) := ⟨_, rfl⟩
  try rw [← hw2]
  have HB2 := Lib.hid (show Below w.heap.size w w2 by rw [hw2]; (repeat (first | with_reducible exact Below.refl _ _ | with_reducible exact hbw | (with_reducible refine Below.setCell ?_ ?_ _; rotate_left; · first | exact Nat.le_refl _ | omega | (simp; done) | (simp; omega)) | (with_reducible refine Below.alloc ?_ ?_ _; rotate_left; · first | exact Nat.le_refl _ | omega | (simp; done) | (simp; omega)) | with_reducible refine below_drewN ?_ _ | with_reducible refine Below.drew ?_)))
  have HZ2 := Lib.hid (show w2.heap.size = w.heap.size + 3 by rw [hw2]; simp)
  have R0 := Lib.hid (show w2.cell? ⟨w.heap.size, 0, none⟩ = some (.string ⟨#[]⟩) by rw [hw2]; simp [go_sem])
  have R1 := Lib.hid (show w2.cell? ⟨w.heap.size, 1, none⟩ = some (.slice none 0 0) by rw [hw2]; simp [go_sem])
  have F0 := Lib.hid (show w2.frozen? ⟨w.heap.size, 0, none⟩ = false by rw [hw2]; simp [go_sem])
  have F1 := Lib.hid (show w2.frozen? ⟨w.heap.size, 1, none⟩ = false by rw [hw2]; simp [go_sem])
  have KP := Lib.hid (show Kept w2 (w.heap.size + 1) (.slice (some ⟨w.heap.size + 1, 0, none⟩) 0 0) (.slice (some ⟨w.heap.size + 2, 0, none⟩) 0 0) 0 ([], []) from by
    have f1 := owns_empty (w.alloc (.cells #[.string ⟨#[]⟩, .slice none 0 0] 29)) 92 3 (w.heap.size + 1) (by simp)
    have f2 := owns_empty ((w.alloc (.cells #[.string ⟨#[]⟩, .slice none 0 0] 29)).alloc (.cells #[] 92)) 4 1 (w.heap.size + 1) (by simp)
    have f3 := owns_mono (w' := w2) f1 (by rw [hw2]; exact belowA _ _)
    rw [← hw2] at f2
    exact ⟨rfl, rfl, by simpa using f3, by simpa using f2, .inr (.inr (by simp [Value.ownBlock]))⟩)
  clear hw2
  go_loopw [10, 11, 12, 13, 14, 15, 16, 17, 18] (fun dr ts ms i _ _ _ _ _ wr => ∃ (k n : Nat) (a1 : Option Addr) (c1 : Nat) (a2 : Option Addr) (c2 : Nat), k ≤ x.tones.length ∧ i = .int .i64 (k : Int) ∧ dr = .int .i64 ((k : Int) - (n : Int)) ∧ ts = .slice a1 n c1 ∧ ms = .slice a2 n c2 ∧ n = (arTo ns b x.tones k).1.length ∧ Kept wr (w.heap.size + 1) (.slice a1 n c1) (.slice a2 n c2) n (arTo ns b x.tones k) ∧ Below (w.heap.size + 1) w2 wr) (fun _ _ _ i _ _ _ _ _ _ => x.tones.length - (intOf i).toNat)
  case atStart => exact ⟨0, 0, some ⟨w.heap.size + 1, 0, none⟩, 0, some ⟨w.heap.size + 2, 0, none⟩, 0, Nat.zero_le _, by go_num, by go_num, rfl, by simp, rfl, KP.out, Below.refl _ _⟩
  case round =>
    clear KP
    obtain ⟨k, n, a1, c1, a2, c2, hk, rfl, rfl, rfl, rfl, hnn, hK, hb⟩ := hrel
    obtain ⟨wo, hwo⟩ : ∃ wo : World, wo = wr := ⟨_, rfl⟩
    subst hwo
    have HK := Lib.hid hK; have HN := Lib.hid hnn; have HBr := Lib.hid hb
    have hzr := hb.size
    have hzw : w.heap.size + 3 ≤ wo.heap.size := by have := HZ2.out; omega
    have hle := (AOK.out k).le
    rw [← hnn] at hle
    have hb0 := Lib.hid (show Below w.heap.size w wo from HB2.out.trans (⟨hb.os, hb.tape, hb.output, hb.size, fun q hq => hb.block q (by omega)⟩ : Below w.heap.size w2 wo))
    have u0 := cellB hb0.out kc0
    have u1 := cellB hb0.out kc1
    have hkb2 : kb < wo.heap.size := by omega
    clear hK hnn hb
    by_cases hlt : k < x.tones.length
    · obtain ⟨b1, o1, rfl, hB1, t0, t1, t2⟩ := (hlv.mono hb0.out).at hlt
      have hok := tun_tone OK.out hlt
      obtain ⟨n1, n2⟩ := hok.noteIn
      have w1' : IntKind.i64.wrap (x.tones[k].note + b) = x.tones[k].note + b := IntWalk.i64_in _ (by omega)
      have w2' : IntKind.i64.wrap ((k : Int) - (n : Int) + 1) = (k : Int) - (n : Int) + 1 := IntWalk.i64_in _ (by omega)
      have HNI := Lib.hid (Ints.mono hn hb0.out)
      have HAT := Lib.hid (arTo_at (ns := ns) (b := b) hlt)
      obtain ⟨pl, hpl⟩ : ∃ pl, pl = placeV ns (x.tones[k].note + b) := ⟨_, rfl⟩
      have HPL := Lib.hid hpl
      have HLV := Lib.hid hlv
      clear hok
      by_cases gp : pl < 0
      · have d1 : decide (pl < 0) = true := by simpa using gp
        have HX := Lib.hid (show arTo ns b x.tones (k + 1) = arTo ns b x.tones k by rw [HAT.out]; exact ar_drop (by rw [← hpl]; exact gp))
        clear hpl gp
        go_wp2_with fail
        refine (l26Place_any _ ns (x.tones[k].note + b) _ (Ints.mono HNI.out (by (repeat (first | with_reducible exact Below.refl _ _ | with_reducible exact hbw | (with_reducible refine Below.setCell ?_ ?_ _; rotate_left; · first | exact Nat.le_refl _ | omega | (simp; done) | (simp; omega)) | (with_reducible refine Below.alloc ?_ ?_ _; rotate_left; · first | exact Nat.le_refl _ | omega | (simp; done) | (simp; omega)) | with_reducible refine below_drewN ?_ _ | with_reducible refine Below.drew ?_)))) (by omega) (by omega)).mono ?_
        rw [← HPL.out]
        rintro e w3 ⟨rfl, hq3⟩
        have hb3 := hq3.below (wo.heap.size + 1)
        have t0' : w3.cell? ⟨wo.heap.size, 0, none⟩ = some (.int .i64 x.tones[k].note) := (hq3.cell _).trans (by simp [go_sem])
        have t1' : w3.cell? ⟨wo.heap.size, 1, none⟩ = some (.int .i64 x.tones[k].start) := (hq3.cell _).trans (by simp [go_sem])
        have t2' : w3.cell? ⟨wo.heap.size, 2, none⟩ = some (.int .i64 x.tones[k].len) := (hq3.cell _).trans (by simp [go_sem])
        have tf : w3.frozen? ⟨wo.heap.size, 0, none⟩ = false := (hb3.frozen (by simp)).trans (by simp [go_sem])
        have hst3 : Below wo.heap.size wo w3 := Below.trans (by (repeat (first | with_reducible exact Below.refl _ _ | with_reducible exact hbw | (with_reducible refine Below.setCell ?_ ?_ _; rotate_left; · first | exact Nat.le_refl _ | omega | (simp; done) | (simp; omega)) | (with_reducible refine Below.alloc ?_ ?_ _; rotate_left; · first | exact Nat.le_refl _ | omega | (simp; done) | (simp; omega)) | with_reducible refine below_drewN ?_ _ | with_reducible refine Below.drew ?_))) (hb3.mono (by simp))
        have hz3 : wo.heap.size < w3.heap.size := by have := hb3.size; simp at this; omega
        have HB3 := Lib.hid (HBr.out.trans (hst3.mono (by omega)))
        have HK3 := Lib.hid (HK.out.mono hst3)
        have u0' := cellB hst3 u0
        have u1' := cellB hst3 u1
        have HST3 := Lib.hid hst3
        clear hb3 hst3 hq3
        go_wp2
        go_roundw
        case rel => exact ⟨k + 1, n, a1, c1, a2, c2, by omega, by go_num, by rw [show ((k : Nat) + 1 : Nat) = k + 1 from rfl, Int.natCast_succ]; congr 1; omega, rfl, rfl, by rw [HX.out]; exact HN.out, by rw [HX.out]; exact HK3.out, HB3.out⟩
        case measure => simp [intOf] <;> omega
      · have d1 : decide (pl < 0) = false := by simpa using gp
        have GP := Lib.hid (show ¬ placeV ns (x.tones[k].note + b) < 0 by rw [← hpl]; exact gp)
        have HT := Lib.hid (show arTon ns b x.tones[k] = ⟨pl, x.tones[k].start, x.tones[k].len⟩ by unfold arTon; rw [HPL.out])
        have HM := Lib.hid (show arMv ns b x.tones[k] = (pl != x.tones[k].note + b) by unfold arMv; rw [HPL.out])
        clear hpl gp
        go_wp2_with fail
        refine (l26Place_any _ ns (x.tones[k].note + b) _ (Ints.mono HNI.out (by (repeat (first | with_reducible exact Below.refl _ _ | with_reducible exact hbw | (with_reducible refine Below.setCell ?_ ?_ _; rotate_left; · first | exact Nat.le_refl _ | omega | (simp; done) | (simp; omega)) | (with_reducible refine Below.alloc ?_ ?_ _; rotate_left; · first | exact Nat.le_refl _ | omega | (simp; done) | (simp; omega)) | with_reducible refine below_drewN ?_ _ | with_reducible refine Below.drew ?_)))) (by omega) (by omega)).mono ?_
        rw [← HPL.out]
        rintro e w3 ⟨rfl, hq3⟩
        have hb3 := hq3.below (wo.heap.size + 1)
        have t0' : w3.cell? ⟨wo.heap.size, 0, none⟩ = some (.int .i64 x.tones[k].note) := (hq3.cell _).trans (by simp [go_sem])
        have t1' : w3.cell? ⟨wo.heap.size, 1, none⟩ = some (.int .i64 x.tones[k].start) := (hq3.cell _).trans (by simp [go_sem])
        have t2' : w3.cell? ⟨wo.heap.size, 2, none⟩ = some (.int .i64 x.tones[k].len) := (hq3.cell _).trans (by simp [go_sem])
        have tf : w3.frozen? ⟨wo.heap.size, 0, none⟩ = false := (hb3.frozen (by simp)).trans (by simp [go_sem])
        have hst3 : Below wo.heap.size wo w3 := Below.trans (by (repeat (first | with_reducible exact Below.refl _ _ | with_reducible exact hbw | (with_reducible refine Below.setCell ?_ ?_ _; rotate_left; · first | exact Nat.le_refl _ | omega | (simp; done) | (simp; omega)) | (with_reducible refine Below.alloc ?_ ?_ _; rotate_left; · first | exact Nat.le_refl _ | omega | (simp; done) | (simp; omega)) | with_reducible refine below_drewN ?_ _ | with_reducible refine Below.drew ?_))) (hb3.mono (by simp))
        have hz3 : wo.heap.size < w3.heap.size := by have := hb3.size; simp at this; omega
        have HB3 := Lib.hid (HBr.out.trans (hst3.mono (by omega)))
        have HK3 := Lib.hid (HK.out.mono hst3)
        have u0' := cellB hst3 u0
        have u1' := cellB hst3 u1
        have HST3 := Lib.hid hst3
        clear hb3 hst3 hq3
        obtain ⟨m, hm⟩ : ∃ m : Bool, m = (pl != x.tones[k].note + b) := ⟨_, rfl⟩
        have HMM := Lib.hid hm
        have hm2 : (pl != x.tones[k].note + b) = m := hm.symm
        clear hm
        go_wp2_with fail
        obtain ⟨w4, hw4⟩ : ∃ w4 : World, w4 = w3.setCell ⟨wo.heap.size, 0, none⟩ (.int .i64 pl) := ⟨_, rfl⟩
        rw [← hw4]
        have hz4 : w4.heap.size = w3.heap.size := by rw [hw4]; simp
        have hst4 : Touch wo.heap.size (wo.heap.size + 1) w3 w4 := by rw [hw4]; exact (Touch.refl _ _ _).setCell (by simp) _
        have T0 := Lib.hid (show w4.cell? ⟨wo.heap.size, 0, none⟩ = some (.int .i64 pl) by rw [hw4]; simp [go_sem, t0', tf, hz3])
        have T1 := Lib.hid (show w4.cell? ⟨wo.heap.size, 1, none⟩ = some (.int .i64 x.tones[k].start) by rw [hw4]; simp [go_sem, t1', hz3])
        have T2 := Lib.hid (show w4.cell? ⟨wo.heap.size, 2, none⟩ = some (.int .i64 x.tones[k].len) by rw [hw4]; simp [go_sem, t2', hz3])
        have HK4 := Lib.hid (show Kept w4 (w.heap.size + 1) (.slice a1 n c1) (.slice a2 n c2) n (arTo ns b x.tones k) from by
          have hg : w3.grownBy w4 (some wo.heap.size) := by rw [hw4]; exact ⟨rfl, rfl, rfl, by simp [World.setCell], fun q _ hq => Below.heap_setCell _ _ _ _ (fun e => hq (by simp [e]))⟩
          have l1 := HK.out.r1.lt
          have l2 := HK.out.r2.lt
          refine ⟨HK3.out.len1, HK3.out.len2, World.ownsRow.kept HK3.out.r1 hg ?_, World.ownsRow.kept HK3.out.r2 hg ?_, HK3.out.ap⟩
          · refine .inr fun e => ?_
            have := (l1 _ e).2; omega
          · refine .inr fun e => ?_
            have := (l2 _ e).2; omega)
        have HB4 := Lib.hid (show Below (w.heap.size + 1) w2 w4 from hst4.below HB3.out (by omega) (by have := HB3.out.size; have := HZ2.out; omega))
        have hz4' : wo.heap.size < w4.heap.size := by omega
        have HZ4 := Lib.hid hz4
        clear hw4 hst4 t0' t1' t2' tf u0' u1' hz4 w1'
        go_loopw [17, 18] (fun r j wr => ∃ (q : Nat) (rv : Int), q ≤ n ∧ j = .int .i64 (q : Int) ∧ r = .int .i64 rv ∧ LastSN (arTon ns b x.tones[k]) (arTo ns b x.tones k).1 q rv ∧ Q w4 wr) (fun _ j _ => n - (intOf j).toNat)
        case atStart => exact ⟨0, -1, Nat.zero_le _, by go_num, rfl, .inl ⟨rfl, fun i hi h => by omega⟩, Q.refl _⟩
        case round =>
          obtain ⟨q, rv, hq, rfl, rfl, hl, hw⟩ := hrel
          have HL := Lib.hid hl; clear hl
          have e0 := (hw.cell _).trans T0.out
          have e1 := (hw.cell _).trans T1.out
          have e2 := (hw.cell _).trans T2.out
          have hbq : Below w4.heap.size w4 wr := hw.below _
          have HZQ := Lib.hid (show wr.heap.size = w4.heap.size by obtain ⟨z, rfl⟩ := hw; rfl)
          have hzr2 : wo.heap.size < wr.heap.size := by have := HZQ.out; omega
          have HKq := Lib.hid (HK4.out.mono hbq)
          have HBq := Lib.hid (HB4.out.trans (hbq.mono (by have := HB4.out.size; have := HZ2.out; omega)))
          have HQ := Lib.hid hw
          by_cases hqn : q < n
          · obtain ⟨g1, g2, rfl, rfl, gne, gb1, gb2, gl1, gl2, ⟨hq1, v0, v1, v2⟩, _, _, _, _⟩ := HKq.out.at hqn
            have n0 : ∀ o y, (ext wr none y).cell? ⟨wo.heap.size, o, none⟩ = wr.cell? ⟨wo.heap.size, o, none⟩ := fun o y => cell?_ext (w := wr) hzr2 (by simp)
            have n1 : ∀ o y, (ext wr none y).cell? ⟨g1, o, none⟩ = wr.cell? ⟨g1, o, none⟩ := fun o y => cell?_ext (w := wr) gl1 (by simp)
            have q1 : (q : Int) < (n : Int) := by omega
            by_cases s1 : (arTo ns b x.tones k).1[q].start = x.tones[k].start
            · have d2 : ((arTo ns b x.tones k).1[q].start == x.tones[k].start) = true := by simpa using s1
              by_cases s2 : (arTo ns b x.tones k).1[q].note = pl
              · have d3 : ((arTo ns b x.tones k).1[q].note == pl) = true := by simpa using s2
                have HX := Lib.hid (last_yes HL.out hq1 (snB_iff.2 ⟨by rw [HT.out]; exact s1, by rw [HT.out]; exact s2⟩))
                clear s1 s2
                go_wp2_with fail
                refine wp_region_ord [(0, true), (1, true), (2, true), (3, true), (4, true), (5, true), (6, true), (7, true), (8, true), (9, true), (10, true), (11, true), (12, true), (13, true), (14, true), (15, true), (16, true), (17, true)] (none) (by kernel_rfl) (by kernel_rfl) ?_
                (repeat (with_reducible refine wpOrd_soft (fun K hK => ?_); simp only [List.getElem?_toArray, List.getElem?_cons_zero, List.getElem?_cons_succ]; first | (go_simp; refine hK _ ?_) | (simp only [undef]; go_simp; refine hK _ ?_); clear hK K))
                (with_reducible refine wpOrd_nil ?_); refine NoPanic.normal ?_
                go_wp2
                go_roundw
                case rel => exact ⟨q + 1, (q : Int), by omega, by go_num, rfl, HX.out, by first | exact HQ.out.drew | exact HQ.out⟩
                case measure => simp [intOf] <;> omega
              · have d3 : ((arTo ns b x.tones k).1[q].note == pl) = false := by simpa using s2
                have HX := Lib.hid (last_no HL.out hq1 (snB_n (by rw [HT.out]; exact s2)))
                clear s1 s2
                go_wp2_with fail
                refine wp_region_ord [(0, true), (1, true), (2, true), (3, true), (4, true), (5, true), (6, true), (7, true), (8, true), (9, true), (10, true), (11, true), (12, true), (13, true), (14, true), (15, true), (16, true), (17, true)] (none) (by kernel_rfl) (by kernel_rfl) ?_
                (repeat (with_reducible refine wpOrd_soft (fun K hK => ?_); simp only [List.getElem?_toArray, List.getElem?_cons_zero, List.getElem?_cons_succ]; first | (go_simp; refine hK _ ?_) | (simp only [undef]; go_simp; refine hK _ ?_); clear hK K))
                (with_reducible refine wpOrd_nil ?_); refine NoPanic.normal ?_
                go_wp2
                go_roundw
                case rel => exact ⟨q + 1, rv, by omega, by go_num, rfl, HX.out, by first | exact HQ.out.drew | exact HQ.out⟩
                case measure => simp [intOf] <;> omega
            · have d2 : ((arTo ns b x.tones k).1[q].start == x.tones[k].start) = false := by simpa using s1
              have HX := Lib.hid (last_no HL.out hq1 (snB_s (by rw [HT.out]; exact s1)))
              clear s1
              go_wp2_with fail
              refine wp_region_ord [(0, true), (1, true), (2, true), (3, true), (4, true), (5, true), (6, true), (7, true), (8, true), (9, true), (10, true), (11, true), (12, true), (13, true), (14, true), (15, true), (16, true), (17, true)] (none) (by kernel_rfl) (by kernel_rfl) ?_
              (repeat (with_reducible refine wpOrd_soft (fun K hK => ?_); simp only [List.getElem?_toArray, List.getElem?_cons_zero, List.getElem?_cons_succ]; first | (go_simp; refine hK _ ?_) | (simp only [undef]; go_simp; refine hK _ ?_); clear hK K))
              (with_reducible refine wpOrd_nil ?_); refine NoPanic.normal ?_
              go_wp2
              go_roundw
              case rel => exact ⟨q + 1, rv, by omega, by go_num, rfl, HX.out, by first | exact HQ.out.drew | exact HQ.out⟩
              case measure => simp [intOf] <;> omega
          · obtain rfl : q = n := by omega
            rcases HL.out with ⟨h1, h2⟩ | ⟨j, hj, hjq, h1, h2⟩
            · have HX := Lib.hid (show arTo ns b x.tones (k + 1) = ((arTo ns b x.tones k).1 ++ [⟨pl, x.tones[k].start, x.tones[k].len⟩], (arTo ns b x.tones k).2 ++ [m]) by rw [HAT.out, ar_new (by have := GP.out; omega) (fun i hi => h2 i hi (by rw [HN.out]; exact hi)), HT.out, HM.out, HMM.out])
              subst h1
              clear h2
              have hzb := HBq.out.size
              go_wp2_with (at_builtin; refine append_one_at rfl _ _ 27 rfl (w.heap.size + 1) 92 _ 3 24 Try.underlying27 info_Tone rfl (by decide) _ q _ rfl HKq.out.r1 [.int .i64 pl, .int .i64 x.tones[k].start, .int .i64 x.tones[k].len] rfl (by simp [Value.oneCell']) wr.heap.size rfl rfl (by omega) (by decide) (by omega) ?_)
              intro a5 f5 w6 ho6 hg6 hb6 hn6
              have hz6 := hb6.size
              have HO6 := Lib.hid ho6
              have HD6 := Lib.hid (Apt.keep HKq.out.ap HKq.out.r2 hg6)
              have HP6 := Lib.hid ((Apt.next HKq.out.ap hn6 (fun z hz => (HKq.out.r2.lt z hz).2)).symm)
              have HB6 := Lib.hid (HBq.out.trans hb6)
              clear ho6 hg6 hn6 hb6
              go_wp2_with (at_builtin; refine append_one_at rfl _ _ 96 rfl (w.heap.size + 1) 4 (.bool false) 1 1 Try.underlying96 info_bool rfl (by decide) _ q _ rfl HD6.out [.bool m] rfl (by simp [Value.oneCell']) w6.heap.size rfl rfl (by omega) (by decide) (by omega) ?_)
              intro a6 f6 w7 ho7 hg7 hb7 hn7
              have HKN := Lib.hid (show Kept w7 (w.heap.size + 1) (.slice a5 (q + 1) f5) (.slice a6 (q + 1) f6) (q + 1) (arTo ns b x.tones (k + 1)) from by
                rw [HX.out]
                exact ⟨by rw [List.length_append, HKq.out.len1]; rfl, by rw [List.length_append, HKq.out.len2]; rfl, by rw [List.flatMap_append]; exact Apt.keep HP6.out HO6.out hg7, by rw [List.map_append]; exact ho7, (Apt.next HP6.out hn7 (fun z hz => (HO6.out.lt z hz).2)).symm⟩)
              have HB7 := Lib.hid (HB6.out.trans hb7)
              have HLN := Lib.hid (show q + 1 = (arTo ns b x.tones (k + 1)).1.length by rw [HX.out, List.length_append, ← HN.out]; rfl)
              clear ho7 hg7 hn7 hb7
              go_wp2
              go_roundw
              case rel => exact ⟨k + 1, q + 1, a5, f5, a6, f6, by omega, by go_num, by congr 1; omega, rfl, rfl, HLN.out, HKN.out, HB7.out⟩
              case measure => simp [intOf] <;> omega
            · subst h1
              have huniq : ∀ i (hi : i < (arTo ns b x.tones k).1.length), i < j → snB (arTon ns b x.tones[k]) (arTo ns b x.tones k).1[i] = false := fun i hi hij => by
                cases e : snB (arTon ns b x.tones[k]) (arTo ns b x.tones k).1[i]
                · rfl
                · have := dst_at (AOK.out k).dst hi hj _ e h2; omega
              obtain ⟨g1, g2, rfl, rfl, gne, gb1, gb2, gl1, gl2, ⟨_, v0, v1, v2⟩, z0, fz1, fz2, hst⟩ := HKq.out.at hjq
              have HST := Lib.hid (fun X M => hst X M)
              have n0 : ∀ o y, (ext wr none y).cell? ⟨wo.heap.size, o, none⟩ = wr.cell? ⟨wo.heap.size, o, none⟩ := fun o y => cell?_ext (w := wr) hzr2 (by simp)
              have n1 : ∀ o y, (ext wr none y).cell? ⟨g1, o, none⟩ = wr.cell? ⟨g1, o, none⟩ := fun o y => cell?_ext (w := wr) gl1 (by simp)
              have p0 := fz1 (j * 3)
              have p1 := fz1 (j * 3 + 1)
              have p2 := fz1 (j * 3 + 2)
              have p3 := fz2 j
              have j0 : ¬ (j : Int) < 0 := by omega
              have j1 : (j : Int) < (q : Int) := by omega
              have j2 : (0 : Int) ≤ (j : Int) := by omega
              have gn2 : ¬ g2 = g1 := fun e => gne e.symm
              have gq1 : ¬ g1 = wo.heap.size := by have := (HK.out.r1.lt g1 rfl).2; omega
              have gq2 : ¬ g2 = wo.heap.size := by have := (HK.out.r2.lt g2 rfl).2; omega
              clear hst fz1 fz2
              by_cases gl : (arTo ns b x.tones k).1[j].len < x.tones[k].len
              · have d3 : decide ((arTo ns b x.tones k).1[j].len < x.tones[k].len) = true := by simpa using gl
                have HX := Lib.hid (show arTo ns b x.tones (k + 1) = ((arTo ns b x.tones k).1.set j ⟨pl, x.tones[k].start, x.tones[k].len⟩, (arTo ns b x.tones k).2.set j m) by rw [HAT.out, ar_set (by have := GP.out; omega) hj h2 huniq gl, HT.out, HM.out, HMM.out])
                clear gl h2 huniq
                go_wp2_with fail
                refine wp_region_ord [(0, true), (1, true), (2, true), (3, true), (4, true), (5, true), (6, true), (7, true)] (none) (by kernel_rfl) (by kernel_rfl) ?_
                (repeat (with_reducible refine wpOrd_soft (fun K hK => ?_); simp only [List.getElem?_toArray, List.getElem?_cons_zero, List.getElem?_cons_succ]; first | (go_simp; refine hK _ ?_) | (simp only [undef]; go_simp; refine hK _ ?_); clear hK K))
                (with_reducible refine wpOrd_nil ?_); refine NoPanic.normal ?_
                go_wp2
                go_roundw
                case rel => exact ⟨k + 1, q, _, c1, _, c2, by omega, by go_num, by congr 1; omega, rfl, rfl, by rw [HX.out, List.length_set]; exact HN.out, by rw [HX.out]; exact (HST.out ⟨pl, x.tones[k].start, x.tones[k].len⟩ m).mono (by (repeat (first | with_reducible exact Below.refl _ _ | with_reducible exact hbw | (with_reducible refine Below.setCell ?_ ?_ _; rotate_left; · first | exact Nat.le_refl _ | omega | (simp; done) | (simp; omega)) | (with_reducible refine Below.alloc ?_ ?_ _; rotate_left; · first | exact Nat.le_refl _ | omega | (simp; done) | (simp; omega)) | with_reducible refine below_drewN ?_ _ | with_reducible refine Below.drew ?_))), by have hbw := HBq.out; (repeat (first | with_reducible exact Below.refl _ _ | with_reducible exact hbw | (with_reducible refine Below.setCell ?_ ?_ _; rotate_left; · first | exact Nat.le_refl _ | omega | (simp; done) | (simp; omega)) | (with_reducible refine Below.alloc ?_ ?_ _; rotate_left; · first | exact Nat.le_refl _ | omega | (simp; done) | (simp; omega)) | with_reducible refine below_drewN ?_ _ | with_reducible refine Below.drew ?_))⟩
                case measure => simp [intOf] <;> omega
              · have d3 : decide ((arTo ns b x.tones k).1[j].len < x.tones[k].len) = false := by simpa using gl
                have HX := Lib.hid (show arTo ns b x.tones (k + 1) = arTo ns b x.tones k by rw [HAT.out, ar_keep (by have := GP.out; omega) hj h2 huniq gl])
                clear gl h2 huniq
                go_wp2_with fail
                refine wp_region_ord [(0, true), (1, true), (2, true), (3, true), (4, true), (5, true), (6, true), (7, true)] (none) (by kernel_rfl) (by kernel_rfl) ?_
                (repeat (with_reducible refine wpOrd_soft (fun K hK => ?_); simp only [List.getElem?_toArray, List.getElem?_cons_zero, List.getElem?_cons_succ]; first | (go_simp; refine hK _ ?_) | (simp only [undef]; go_simp; refine hK _ ?_); clear hK K))
                (with_reducible refine wpOrd_nil ?_); refine NoPanic.normal ?_
                go_wp2
                go_roundw
                case rel => exact ⟨k + 1, q, _, c1, _, c2, by omega, by go_num, by congr 1; omega, rfl, rfl, by rw [HX.out]; exact HN.out, by rw [HX.out]; exact HKq.out.mono (by (repeat (first | with_reducible exact Below.refl _ _ | with_reducible exact hbw | (with_reducible refine Below.setCell ?_ ?_ _; rotate_left; · first | exact Nat.le_refl _ | omega | (simp; done) | (simp; omega)) | (with_reducible refine Below.alloc ?_ ?_ _; rotate_left; · first | exact Nat.le_refl _ | omega | (simp; done) | (simp; omega)) | with_reducible refine below_drewN ?_ _ | with_reducible refine Below.drew ?_))), by have hbw := HBq.out; (repeat (first | with_reducible exact Below.refl _ _ | with_reducible exact hbw | (with_reducible refine Below.setCell ?_ ?_ _; rotate_left; · first | exact Nat.le_refl _ | omega | (simp; done) | (simp; omega)) | (with_reducible refine Below.alloc ?_ ?_ _; rotate_left; · first | exact Nat.le_refl _ | omega | (simp; done) | (simp; omega)) | with_reducible refine below_drewN ?_ _ | with_reducible refine Below.drew ?_))⟩
                case measure => simp [intOf] <;> omega
    · obtain rfl : k = x.tones.length := by omega
      have r0 := cellL HBr.out (by simp) R0.out
      have r1 := cellL HBr.out (by simp) R1.out
      have f0 := frozenL HBr.out (by simp) F0.out
      have f1 := frozenL HBr.out (by simp) F1.out
      have HMC := Lib.hid (show arM x ns b = mvCnt (arTo ns b x.tones x.tones.length).2 n by unfold arM; rw [← HN.out])
      have HDC := Lib.hid (show arD x ns b = (x.tones.length : Int) - (n : Int) by unfold arD; rw [← HN.out])
      go_wp2_with fail
      go_loopw [9, 19] (fun c i wr => ∃ k : Nat, k ≤ n ∧ i = .int .i64 (k : Int) ∧ c = .int .i64 (mvCnt (arTo ns b x.tones x.tones.length).2 k) ∧ wr = wo) (fun _ i _ => n - (intOf i).toNat)
      case atStart => exact ⟨0, Nat.zero_le _, by go_num, rfl, rfl⟩
      case round =>
        obtain ⟨k, hkn, rfl, rfl, rfl⟩ := hrel
        obtain ⟨m0, m1⟩ := mv_bd (arTo ns b x.tones x.tones.length).2 k
        have w1' : IntKind.i64.wrap (mvCnt (arTo ns b x.tones x.tones.length).2 k + 1) = mvCnt (arTo ns b x.tones x.tones.length).2 k + 1 := IntWalk.i64_in _ (by omega)
        by_cases hlt : k < n
        · obtain ⟨g1, g2, rfl, rfl, gne, gb1, gb2, gl1, gl2, _, y0, _, _, _⟩ := HK.out.at hlt
          cases gm : (arTo ns b x.tones x.tones.length).2.getD k false
          · rw [gm] at y0
            have HX := Lib.hid (mv_no gm); clear gm
            go_wp2
            go_roundw
            case rel => exact ⟨k + 1, by omega, by go_num, by rw [HX.out], by first | rfl | trivial⟩
            case measure => simp [intOf] <;> omega
          · rw [gm] at y0
            have HX := Lib.hid (mv_yes gm); clear gm
            go_wp2
            go_roundw
            case rel => exact ⟨k + 1, by omega, by go_num, by rw [HX.out], by first | rfl | trivial⟩
            case measure => simp [intOf] <;> omega
        · obtain rfl : k = n := by omega
          have n0 : ∀ o y, (ext wr (some w.heap.size) y).cell? ⟨kb, o, none⟩ = wr.cell? ⟨kb, o, none⟩ := fun o y => cell?_ext (w := wr) hkb2 (by simp; omega)
          have HTN := Lib.hid HK.out.tons
          have HLN := Lib.hid HK.out.len1
          go_wp2_with fail
          refine wp_region_ord [(0, true), (1, true), (2, true), (3, true), (4, true), (7, true), (8, true), (5, false), (6, true), (9, false), (10, true), (11, true)] (some w.heap.size) (by kernel_rfl) (by kernel_rfl) ?_
          (repeat (with_reducible refine wpOrd_soft (fun K hK => ?_); simp only [List.getElem?_toArray, List.getElem?_cons_zero, List.getElem?_cons_succ]; first | (go_simp; refine hK _ ?_) | (simp only [undef]; go_simp; refine hK _ ?_); clear hK K))
          (with_reducible refine wpOrd_hard ?_; simp only [List.getElem?_toArray, List.getElem?_cons_zero, List.getElem?_cons_succ])
          go_wp2_with fail
          refine (l25Sorted_any _ (arTo ns b x.tones x.tones.length).1 _ (HTN.out.mono (by (repeat (first | with_reducible exact Below.refl _ _ | with_reducible exact hbw | (with_reducible refine Below.setCell ?_ ?_ _; rotate_left; · first | exact Nat.le_refl _ | omega | (simp; done) | (simp; omega)) | (with_reducible refine Below.alloc ?_ ?_ _; rotate_left; · first | exact Nat.le_refl _ | omega | (simp; done) | (simp; omega)) | with_reducible refine below_drewN ?_ _ | with_reducible refine Below.drew ?_)))) (by rw [HLN.out]; omega)).mono ?_
          rintro e w5 ⟨v5, d, rfl, hp, hs5, ho5, hb5⟩
          obtain ⟨a5, c5, rfl⟩ := ho5.form
          have hst5 : Below wr.heap.size wr w5 := undrew hb5
          have hz5 := hst5.size
          have E1 := Lib.hid (show arT x ns b = ⟨x.name, d⟩ from (to_yes hp hs5 (ar_valid OK.out HSET.out hp hs5)).1)
          have HPL := Lib.hid hp.length_eq
          have HO5 := Lib.hid ho5
          have r0 := cellB hst5 r0
          have r1 := cellB hst5 r1
          have f0 := frozenL hst5 (by simp only; omega) f0
          have f1 := frozenL hst5 (by simp only; omega) f1
          have l9 : w.heap.size < w5.heap.size := by omega
          have HS5 := Lib.hid hst5
          have HB5 := Lib.hid (hb0.out.trans (hst5.mono hb0.out.size))
          clear hb5 ho5 hp hs5 hst5
          go_wp2_with fail
          refine ⟨grown_row' HS5.out, ?_⟩
          (repeat (with_reducible refine wpOrd_soft (fun K hK => ?_); simp only [List.getElem?_toArray, List.getElem?_cons_zero, List.getElem?_cons_succ]; first | (go_simp; refine hK _ ?_) | (simp only [undef]; go_simp; refine hK _ ?_); clear hK K))
          (with_reducible refine wpOrd_hard ?_; simp only [List.getElem?_toArray, List.getElem?_cons_zero, List.getElem?_cons_succ])
          go_wp2_with fail
          refine ⟨grown_trans (grown_row' HS5.out) (grown_trans (grown_cell1 _ _ _ _) (grown_cell1 _ _ _ _)), ?_⟩
          (repeat (with_reducible refine wpOrd_soft (fun K hK => ?_); simp only [List.getElem?_toArray, List.getElem?_cons_zero, List.getElem?_cons_succ]; first | (go_simp; refine hK _ ?_) | (simp only [undef]; go_simp; refine hK _ ?_); clear hK K))
          (with_reducible refine wpOrd_nil ?_); refine NoPanic.normal ?_
          go_wp2
          refine bodyPost_ret (v := .tuple #[.agg #[.string x.name, .slice a5 (arTo ns b x.tones x.tones.length).1.length c5], .int .i64 (mvCnt (arTo ns b x.tones x.tones.length).2 k), .int .i64 ((x.tones.length : Int) - k)]) (by simp [results, Try.results42, go_sem, l9, r0, r1, f0, f1]) rfl ⟨_, by rw [HMC.out, HDC.out], ?_, ?_⟩
          · rw [E1.out]
            refine ⟨_, rfl, ?_⟩
            have h3 := HO5.out
            rw [← HPL.out] at h3 ⊢
            refine (h3.touch (B' := w.heap.size) (E' := w.heap.size + 1) ?_ (Or.inr (by simp; omega))).wide (by simp; omega) (by simp)
            have htc := Touch.refl w.heap.size (w.heap.size + 1) w5
            (repeat (first | with_reducible exact Touch.refl _ _ _ | with_reducible exact htc | (with_reducible refine Touch.setCell ?_ ?_ _; rotate_left; · (simp only; omega)) | (with_reducible refine Touch.setNew ?_ ?_ _; rotate_left; · (first | (simp only; omega) | (simp; done) | (simp; omega))) | with_reducible refine Touch.alloc ?_ _ | with_reducible refine Touch.drewN ?_ _ | with_reducible refine Touch.drew ?_))
          · have hbw := HB5.out
            (repeat (first | with_reducible exact Below.refl _ _ | with_reducible exact hbw | (with_reducible refine Below.setCell ?_ ?_ _; rotate_left; · first | exact Nat.le_refl _ | omega | (simp; done) | (simp; omega)) | (with_reducible refine Below.alloc ?_ ?_ _; rotate_left; · first | exact Nat.le_refl _ | omega | (simp; done) | (simp; omega)) | with_reducible refine below_drewN ?_ _ | with_reducible refine Below.drew ?_))
end Go.Proofs.Ytemmnjokojgjaaa
/- Contracts of l26Order and shifts: 0, -1, 1, -2, 2 .. -24, 24. -/
set_option linter.unusedSimpArgs false
set_option linter.unnecessarySimpa false
set_option linter.unusedVariables false
set_option maxRecDepth 100000
namespace Go.Proofs.Ytemmnjokojgjaaa
open Go.RowKit

/-- 'out = append(out, x, y)' of cells of size 1, out owned, the pair laid just ahead. -/
theorem append_two {P : Program} {w : World} {ops : Array Oper} {rest : List Oper} {o : Oper} {a : Act} {Q : Exit → Act → World → Prop} (hgd : o.guard = none) (s x : Operand) (t : TypeId)
    (ho : o.op = .call { callee := .builtin .append, args := #[s, x], argTypes := #[t, t] })
    (base : Nat) (e : TypeId) (z : Value) (bytes : Nat) (ht : P.underlying t = some (.slice e)) (hi : (P.info? e).map (fun i => (i.zero, i.size, i.bytes)) = some (some z, 1, bytes)) (hzs : z.cells.size = 1)
    (v : Value) (n : Nat) (xs : List Value) (hs : a.eval s = v) (hown : w.ownsRow base e 1 v n xs) (news : List Value) (hl : news.length = 2) (h1 : ∀ u ∈ news, u.oneCell' = true)
    (hx : a.eval x = .slice (some ⟨w.heap.size, 0, none⟩) 2 2) (hn : n ≤ 1000000000) (hbytes : bytes ≤ 1000) (hbase : base ≤ w.heap.size)
    (h : ∀ a' cap' w', w'.ownsRow base e 1 (.slice a' (n + 2) cap') (n + 2) (xs ++ news) → w.grownBy w' v.ownBlock → Below base w w' → wpList P ops Q rest (Act.put a o.dst (.slice a' (n + 2) cap')) w') :
    wpList P ops Q (o :: rest) a (w.alloc (.cells news.toArray e)) := by
  obtain ⟨i0, hi, hz0, hz1, hz2⟩ := info_parts hi
  have hb2 : (n + 2) * bytes ≤ 140737488355328 := Nat.le_trans (Nat.mul_le_mul (show n + 2 ≤ 1000000002 by omega) hbytes) (by omega)
  refine wpList_append_own _ hgd s x t ho base e i0 z 1 bytes ht hi hz0 hz1 hz2 hzs (by decide) v n xs hs (hown.alloc _) ⟨w.heap.size, 0, none⟩ 2 2 news hx (by omega) (fun j u hu => ?_) h1 (by unfold maxLen; omega) hb2 (by simp; omega) (fun v' w' ho' hg' _ => ?_)
  · rw [Addr.add_lit, Nat.zero_add, cell_of_row _ w.heap.size j news.toArray e (0, 0) (heap_alloc_new w _)]
    simpa using hu
  · obtain ⟨a', cap', rfl⟩ : ∃ a' cap', v' = .slice a' (n + 2) cap' := by
      rcases ho'.2 with ⟨rfl, h0⟩ | ⟨g, cap, cur, rfl, _⟩
      · omega
      · exact ⟨_, _, rfl⟩
    have hg2 : w.grownBy w' v.ownBlock := grown_trans (World.grownBy_alloc _ _ _) hg'
    exact h a' cap' w' ho' hg2 ((Below.refl base w).grown hg2 hbase (fun k hk => (hown.lt k hk).1))

def shK (k : Nat) : Int := if k % 2 = 1 then -(((k + 1) / 2 : Nat) : Int) else ((k / 2 : Nat) : Int)
theorem shK_bd {k : Nat} (h : k ≤ 48) : -24 ≤ shK k ∧ shK k ≤ 24 := by unfold shK; split <;> omega
theorem shK_odd (m : Nat) : shK (2 * m + 1) = -((m : Int) + 1) := by unfold shK; rw [if_pos (by omega)]; omega
theorem shK_even (m : Nat) : shK (2 * m) = (m : Int) := by unfold shK; rw [if_neg (by omega)]; omega
def shL (k : Nat) : List Int := (List.range k).map shK
theorem shL_len (k : Nat) : (shL k).length = k := by simp [shL]
theorem shL_get {n k : Nat} (h : k < (shL n).length) : (shL n)[k] = shK k := by simp [shL]
theorem shL_two (m : Nat) : shL (2 * m + 3) = shL (2 * m + 1) ++ [-((m : Int) + 1), (m : Int) + 1] := by
  have e1 : shK (2 * m + 1) = -((m : Int) + 1) := shK_odd m
  have e2 : shK (2 * m + 2) = ((m : Int) + 1) := by have := shK_even (m + 1); rw [show 2 * (m + 1) = 2 * m + 2 by omega] at this; rw [this]; omega
  unfold shL
  rw [List.range_succ, List.range_succ]
  simp [e1, e2]

theorem l26Order_any (k : Nat) (w : World) (h : k ≤ 48) :
    Calls Try.prog 51 #[.int .i64 (k : Int)] w fun e w' => e = .returned (.int .i64 (shK k)) ∧ w' = w := by
  by_cases p : k % 2 = 1
  · obtain ⟨m, rfl⟩ : ∃ m, k = 2 * m + 1 := ⟨k / 2, by omega⟩
    have E := Lib.hid (shK_odd m)
    obtain ⟨n, hn⟩ : ∃ n : Int, n = ((2 * m + 1 : Nat) : Int) := ⟨_, rfl⟩
    rw [← hn]
    have t1 : IntKind.i64.wrap (n.tmod 2) = 1 := by rw [Int.tmod_eq_emod_of_nonneg (by omega), show n % 2 = 1 by omega]; decide
    have d1 : (n.tmod 2 == 1) = true := by rw [Int.tmod_eq_emod_of_nonneg (by omega), show n % 2 = 1 by omega]; rfl
    have w1 : IntKind.i64.wrap (n + 1) = n + 1 := IntWalk.i64_in _ (by omega)
    have w2 : IntKind.i64.wrap (-(n + 1)) = -(n + 1) := IntWalk.i64_in _ (by omega)
    have w3 : IntKind.i64.wrap (-((n + 1).tdiv 2)) = -((m : Int) + 1) := by
      rw [Int.tdiv_eq_ediv_of_nonneg (by omega), show (n + 1) / 2 = (m : Int) + 1 by omega]; exact IntWalk.i64_in _ (by omega)
    have N := Lib.hid hn; clear hn
    go_enter Try.func51, Try.ntmps51
    go_wp2
    go_ret
    exact ⟨by rw [E.out]; rfl, rfl⟩
  · obtain ⟨m, rfl⟩ : ∃ m, k = 2 * m := ⟨k / 2, by omega⟩
    have E := Lib.hid (shK_even m)
    obtain ⟨n, hn⟩ : ∃ n : Int, n = ((2 * m : Nat) : Int) := ⟨_, rfl⟩
    rw [← hn]
    have t1 : IntKind.i64.wrap (n.tmod 2) = 0 := by rw [Int.tmod_eq_emod_of_nonneg (by omega), show n % 2 = 0 by omega]; decide
    have d1 : (n.tmod 2 == 1) = false := by rw [Int.tmod_eq_emod_of_nonneg (by omega), show n % 2 = 0 by omega]; rfl
    have w3 : IntKind.i64.wrap (n.tdiv 2) = (m : Int) := by
      rw [Int.tdiv_eq_ediv_of_nonneg (by omega), show n / 2 = (m : Int) by omega]; exact IntWalk.i64_in _ (by omega)
    have N := Lib.hid hn; clear hn
    go_enter Try.func51, Try.ntmps51
    go_wp2
    go_ret
    exact ⟨by rw [E.out]; rfl, rfl⟩

theorem owns_single (w : World) (e : TypeId) (base : Nat) (n : Int) (h : base ≤ w.heap.size) : (w.alloc (.cells #[.int .i64 n] e)).ownsRow base e 1 (.slice (some ⟨w.heap.size, 0, none⟩) 1 1) 1 [.int .i64 n] :=
  ⟨by simp, .inr ⟨w.heap.size, 1, #[.int .i64 n], rfl, h, heap_alloc_new w _, by simp, by simp [maxLen], by simp, by simp⟩⟩

set_option maxHeartbeats 1000000 in
theorem shifts_any (w : World) :
    Calls Try.prog 52 #[] w fun e w' => ∃ v', e = .returned v' ∧ w'.ownsRow w.heap.size 2 1 v' 49 ((shL 49).map (Value.int .i64)) ∧ Below w.heap.size w w' := by
  go_enter Try.func52, Try.ntmps52
  go_wp2_with fail
  go_loopw [1, 2] (fun o i wr => ∃ (m n : Nat) (a' : Option Addr) (c' : Nat), m ≤ 24 ∧ n = 2 * m + 1 ∧ i = .int .i64 ((m : Int) + 1) ∧ o = .slice a' n c' ∧ wr.ownsRow w.heap.size 2 1 (.slice a' n c') n ((shL n).map (Value.int .i64)) ∧ Below w.heap.size w wr) (fun _ i _ => 25 - (intOf i).toNat)
  case atStart => exact ⟨0, 1, _, _, by omega, rfl, by go_num, rfl, owns_single _ _ _ _ (Nat.le_refl _), by (repeat (first | with_reducible exact Below.refl _ _ | with_reducible exact hbw | (with_reducible refine Below.setCell ?_ ?_ _; rotate_left; · first | exact Nat.le_refl _ | omega | (simp; done) | (simp; omega)) | (with_reducible refine Below.alloc ?_ ?_ _; rotate_left; · first | exact Nat.le_refl _ | omega | (simp; done) | (simp; omega)) | with_reducible refine below_drewN ?_ _ | with_reducible refine Below.drew ?_))⟩
  case round =>
    obtain ⟨m, n, a1, c1, hm, hn, rfl, rfl, ho, hb⟩ := hrel
    have hz := hb.size
    obtain ⟨u, hu⟩ : ∃ u : Int, u = (m : Int) + 1 := ⟨_, rfl⟩
    rw [← hu]
    by_cases hlt : m < 24
    · have w1 : IntKind.i64.wrap (u + 1) = u + 1 := IntWalk.i64_in _ (by omega)
      have w2 : IntKind.i64.wrap (-u) = -u := IntWalk.i64_in _ (by omega)
      have d1 : decide (u ≤ 24) = true := by simp; omega
      have hn2 : n ≤ 1000 := by omega
      have S := Lib.hid (show shL (n + 2) = shL n ++ [-u, u] by rw [hn, hu]; exact shL_two m)
      have HN := Lib.hid hn; clear hn
      have HU := Lib.hid hu; clear hu
      go_wp2_with (at_builtin; refine append_two rfl _ _ 25 rfl w.heap.size 2 (.int .i64 0) 8 Try.underlying25 info_int64 rfl _ n _ rfl ho [.int .i64 (-u), .int .i64 u] rfl (by simp [Value.oneCell']) rfl (by omega) (by decide) hz ?_)
      intro a' cap' w3 ho3 _ hb3
      go_wp2
      go_roundw
      case rel => exact ⟨m + 1, n + 2, a', cap', by omega, by have := HN.out; omega, by have := HU.out; subst this; go_num, rfl, by rw [S.out]; simpa using ho3, hb.trans hb3⟩
      case measure => have := HU.out; simp [intOf] <;> omega
    · have d1 : decide (u ≤ 24) = false := by simp; omega
      have hn' : n = 49 := by omega
      have HN := Lib.hid hn'; clear hn hn' hu
      go_wp2
      go_ret
      exact ⟨_, rfl, by have := HN.out; subst this; exact ho, hb⟩

end Go.Proofs.Ytemmnjokojgjaaa
