/- The reference reads a tune. Contract of ReadTune. -/
import Derived.Test.YtgdfecnpkjnhnaaDoorReadTon
import Derived.Test.YtgdfecnpkjnhnaaDoorKTun
set_option linter.unusedSimpArgs false
set_option linter.unnecessarySimpa false
set_option linter.unusedVariables false
set_option maxRecDepth 100000
namespace Go.Proofs.YtgdfecnpkjnhnaaDoor
open Go.RowKit

theorem rtT_of {s : ByteArray} {hd : List UInt8} {tl : List (List UInt8)} (h : words s = hd :: tl) : rtT s = ⟨bytesB hd, tl.map toneV⟩ := by unfold rtT; rw [h]; rfl
theorem rtOk_of {s : ByteArray} {hd : List UInt8} {tl : List (List UInt8)} (h : words s = hd :: tl) : rtOk s ↔ ((∀ p ∈ tl, toneB p) ∧ TunOk ⟨bytesB hd, tl.map toneV⟩) := by unfold rtOk; rw [rtT_of h, h]; rfl
/-- The tones of the first j pieces. -/
noncomputable def tonesTo (tl : List (List UInt8)) (j : Nat) : List Ton := (tl.take j).map toneV
theorem tonesTo_step {tl : List (List UInt8)} {j : Nat} (h : j < tl.length) : tonesTo tl (j + 1) = tonesTo tl j ++ [toneV tl[j]] := by unfold tonesTo; rw [List.take_succ_eq_append_getElem h, List.map_append]; rfl
theorem tonesTo_all (tl : List (List UInt8)) : tonesTo tl tl.length = tl.map toneV := by unfold tonesTo; rw [List.take_length]
theorem own_zeroT (B E : Nat) (w : World) : OwnTun B E w (.agg #[.string ⟨#[]⟩, .slice none 0 0]) ⟨.empty, []⟩ := ⟨_, rfl, owns_nil _ _ _ _, fun k hk => by simp [Value.ownBlock] at hk⟩


def RdTune (s : ByteArray) (w : World) (e : Ending) (w' : World) : Prop := ∃ v, e = .returned (.tuple #[v, .bool (rtB s)]) ∧ OwnTun w.heap.size w'.heap.size w' v (rtV s) ∧ Below w.heap.size w w'

set_option maxHeartbeats 4000000 in
theorem l25Read_any (s : ByteArray) (w : World) (hs : s.size ≤ 1048576) :
    Calls Tryd.prog 51 #[.string s] w (RdTune s w) := by
  have hw := words_cons s
  obtain ⟨hd, hhd⟩ : ∃ hd, hd = (words s).headD [] := ⟨_, rfl⟩
  obtain ⟨tl, htl⟩ : ∃ tl, tl = (words s).tail := ⟨_, rfl⟩
  rw [← hhd, ← htl] at hw
  have HW := Lib.hid hw
  have hlen := splitC_len_le 32 s.data.toList
  have hle : s.data.toList.length = s.size := by cases s; rfl
  have hcl : tl.length ≤ 1048576 := by
    have : (words s).length ≤ s.data.toList.length + 1 := hlen
    rw [hw, List.length_cons] at this; omega
  have HSP := Lib.hid fun w => l01Split_any s 32 w hs
  have HSZ := Lib.hid (show ∀ p ∈ hd :: tl, (bytesB p).size ≤ 1048576 from fun p hp => piece_size (c := 32) (by rw [← hw] at hp; exact hp) hs)
  have HNM := HSZ.out hd (by simp)
  clear hs hw hhd htl hlen hle
  go_enter Tryd.func51, Tryd.ntmps51
  go_wp2_with fail
  have B0 := Lib.hid (Box.alloc w [.string ⟨#[]⟩, .slice none 0 0] 35 w.heap.size rfl)
  refine (HSP.out _).mono ?_
  rintro e w1 ⟨v, rfl, hp1, hb1⟩
  have ht := hp1.txt (splitC_ne 32 _)
  rw [show splitC 32 s.data.toList = hd :: tl from HW.out] at ht
  have B0 := Lib.hid (B0.out.mono hb1)
  have HB1 := Lib.hid (Below.trans (belowA w (.cells #[.string ⟨#[]⟩, .slice none 0 0] 35)) (hb1.mono (by simp)))
  have hz1 : w.heap.size < w1.heap.size := B0.out.lt
  obtain ⟨g, c, rfl, hcc, hcell⟩ := ht
  have x0 := hcell 0 (by simp)
  have hg1 : g < w1.heap.size := World.block_lt_of_cell? w1 _ x0
  have HC := Lib.hid (show ∀ j (hj : j < tl.length), w1.cell? ⟨g, j + 1, none⟩ = some (.string (bytesB tl[j])) from fun j hj => by
    have := hcell (j + 1) (by simp; omega)
    simpa using this)
  simp only [List.getElem_cons_zero] at x0
  rw [List.length_cons] at hcc
  clear hcell hp1 hb1
  have hlc : (hd :: tl).length = tl.length + 1 := rfl
  rw [hlc]
  clear hlc
  have BQ := Lib.hid (Box.alloc w1 [.string (bytesB hd), .slice none 0 0] 35 w1.heap.size rfl)
  have p0 : 0 < tl.length + 1 := by omega
  go_wp2_with fail
  go_loopw [6, 7, 8] (fun i _ _ wr => ∃ (j : Nat) (a' : Option Addr) (c' : Nat), j ≤ tl.length ∧ i = .int .i64 (((j + 1 : Nat)) : Int) ∧ Box wr w1.heap.size [.string (bytesB hd), .slice a' j c'] ∧ wr.ownsRow (w1.heap.size + 1) 59 3 (.slice a' j c') j ((tonesTo tl j).flatMap Ton.cells) ∧ (∀ q (hq : q < tl.length), q < j → toneB tl[q]) ∧ Below w1.heap.size w1 wr) (fun i _ _ _ => tl.length + 1 - (intOf i).toNat)
  case atStart => exact ⟨0, none, 0, Nat.zero_le _, by go_num, BQ.out, by simpa [tonesTo] using owns_nil _ 59 3 _, (fun q _ hq => by omega), belowA _ _⟩
  case round =>
    obtain ⟨j, a', c', hj, rfl, hq, ho, hn, hb⟩ := hrel
    have FQ := Lib.hid hq; have HO := Lib.hid ho; have HB := Lib.hid hb; have HN := Lib.hid hn
    have hlq := hq.lt
    have hz := hb.size
    have B0 := Lib.hid (B0.out.mono (hb.mono (Nat.le_refl _)))
    have HBW := Lib.hid (HB1.out.trans (hb.mono (by omega)))
    clear BQ hq ho hn
    by_cases hlt : j < tl.length
    · have e1 := cellB hb (HC.out j hlt)
      have HS1 := Lib.hid (HSZ.out tl[j] (by simp))
      have HST := Lib.hid (tonesTo_step hlt)
      obtain ⟨i, hi⟩ : ∃ i, i = j + 1 := ⟨_, rfl⟩
      rw [← hi] at e1 ⊢
      have hil : i < tl.length + 1 := by omega
      have hil2 : (i : Int) < (tl.length : Int) + 1 := by omega
      have hil3 : decide ((i : Int) < (tl.length : Int) + 1) = true := decide_eq_true hil2
      have HI := Lib.hid hi
      clear hb hi
      go_wp2_with fail
      refine (l25ReadTone_any tl[j] _ HS1.out).mono ?_
      rintro e w2 ⟨x, rfl, hx, hb2⟩
      have hz2 := hb2.size
      have B0 := Lib.hid (B0.out.mono hb2)
      have FQ := Lib.hid (FQ.out.mono hb2)
      have HO2 := Lib.hid (owns_mono HO.out hb2)
      have HBW2 := Lib.hid (HBW.out.trans (hb2.mono HBW.out.size))
      have HB2 := Lib.hid (HB.out.trans (hb2.mono hz))
      clear hb2
      by_cases ht : toneB tl[j]
      rotate_left
      · have HR := Lib.hid (rt_no (s := s) (fun h => ht (((rtOk_of HW.out).1 h).1 _ (List.getElem_mem hlt))))
        rw [decide_eq_false ht]
        clear ht hx
        have r0 := B0.out.at' 0 _ rfl
        have r1 := B0.out.at' 1 _ rfl
        have f0 := B0.out.fr 0
        have f1 := B0.out.fr 1
        have l0 := B0.out.lt
        go_wp2
        refine bodyPost_ret (v := .tuple #[.agg #[.string ⟨#[]⟩, .slice none 0 0], .bool false]) (by simp [results, Tryd.results51, go_sem, r0, r1, f0, f1, l0]) rfl ⟨_, by rw [HR.out.1], by rw [HR.out.2]; exact own_zeroT _ _ _, ?_⟩
        have hbw := HBW2.out
        (repeat (first | with_reducible exact Below.refl _ _ | with_reducible exact hbw | (with_reducible refine Below.setCell ?_ ?_ _; rotate_left; · first | exact Nat.le_refl _ | omega | (simp; done) | (simp; omega)) | (with_reducible refine Below.alloc ?_ ?_ _; rotate_left; · first | exact Nat.le_refl _ | omega | (simp; done) | (simp; omega)) | with_reducible refine below_drewN ?_ _ | with_reducible refine Below.drew ?_))
      obtain rfl := hx ht
      rw [decide_eq_true ht]
      have HTB := Lib.hid ht
      obtain ⟨x, hxe⟩ : ∃ x, x = toneV tl[j] := ⟨_, rfl⟩
      rw [← hxe] at HST ⊢
      have FW := Lib.hid (FQ.out.mono (belowA w2 (.cells #[.int .i64 x.note, .int .i64 x.start, .int .i64 x.len] 59)))
      have HOW := Lib.hid (owns_mono HO2.out (belowA w2 (.cells #[.int .i64 x.note, .int .i64 x.start, .int .i64 x.len] 59)))
      have y1 := FW.out.at' 1 _ rfl
      have hjx : j ≤ 1048576 := by omega
      clear ht hx hxe HO HO2
      go_wp2_with (at_builtin; refine append_one_at rfl _ _ 33 rfl (w1.heap.size + 1) 59 _ 3 24 Tryd.underlying33 info_Tone rfl (by decide) _ j _ rfl HOW.out [.int .i64 x.note, .int .i64 x.start, .int .i64 x.len] rfl (by simp [Value.oneCell']) (w2.heap.size + 1) (by simp) rfl (by omega) (by decide) (by simp; omega) ?_)
      intro a7 c7 w7 ho7 hg7 hb7 _
      have hst : Below (w1.heap.size + 1) (w2.alloc (.cells #[.int .i64 x.note, .int .i64 x.start, .int .i64 x.len] 59)) w7 := hb7
      have bq := FW.out.step hst (by omega)
      have c5 := bq.at' 1 _ rfl
      have g5 := bq.fr 1
      have l5 := bq.lt
      have GQ := Lib.hid (bq.set (j := 1) (.slice a7 (j + 1) c7) (by simp))
      have GO := Lib.hid (ownsRow_setCell_below (a := ⟨w1.heap.size, 1, none⟩) ho7 (by simp) (.slice a7 (j + 1) c7))
      have hz5 := hst.size
      simp only [World.size_alloc] at hz5
      have GB := Lib.hid (((Touch.refl w1.heap.size (w1.heap.size + 1) w7).setCell (p := ⟨w1.heap.size, 1, none⟩) (by simp) (.slice a7 (j + 1) c7)).below (HB2.out.trans (Below.trans ((belowA w2 (.cells #[.int .i64 x.note, .int .i64 x.start, .int .i64 x.len] 59)).mono (by omega)) (hst.mono (by omega)))) (Nat.le_refl _) (by omega))
      clear ho7 hg7 hb7 hst bq y1 FW HOW FQ HB2
      go_wp2
      go_roundw
      case rel => exact ⟨j + 1, a7, c7, by omega, by rw [HI.out]; go_num, GQ.out, by rw [HST.out, List.flatMap_append]; exact GO.out, (fun q hq h1 => if e : q = j then (by subst e; exact HTB.out) else HN.out q hq (by omega)), GB.out⟩
      case measure => simp [intOf] <;> omega
    · obtain rfl : j = tl.length := by omega
      have HLV := Lib.hid (show OwnRow (w1.heap.size + 1) wr.heap.size wr 59 3 (.slice a' tl.length c') (tl.map toneV).length ((tl.map toneV).flatMap Ton.cells) by
        have := HO.out
        rw [tonesTo_all] at this
        rw [List.length_map]
        exact OwnRow.mk' this)
      have HRT := Lib.hid (rtT_of HW.out)
      have u0 := FQ.out.at' 0 _ rfl
      have u1 := FQ.out.at' 1 _ rfl
      have HT := Lib.hid (show TunIn wr w1.heap.size (.slice a' tl.length c') (rtT s) from by
        rw [HRT.out]
        refine ⟨u0, u1, ?_, by unfold maxLen; simp only; omega⟩
        have := HLV.out.1
        rw [List.length_map] at this
        have h2 : wr.ownsRow (w1.heap.size + 1) 59 3 (.slice a' tl.length c') (tl.map toneV).length ((tl.map toneV).flatMap Ton.cells) := by rw [List.length_map]; exact this
        exact Tons.of_owns h2)
      have d0 : decide (((tl.length + 1 : Nat) : Int) < (tl.length : Int) + 1) = false := by simp only [decide_eq_false_iff_not]; omega
      clear HO hb
      go_wp2_with fail
      refine (l25Ok_any _ _ (rtT s) _ HT.out).mono ?_
      rintro e w2 ⟨rfl, hb2⟩
      have hz2 := hb2.size
      have B0 := Lib.hid (B0.out.mono hb2)
      have HBW := Lib.hid (HBW.out.trans (hb2.mono HBW.out.size))
      have HLV := Lib.hid (HLV.out.mono hb2)
      have u0 := cellB hb2 u0
      have u1 := cellB hb2 u1
      have hlq2 : w1.heap.size < w2.heap.size := by omega
      clear hb2
      cases hval : validTunB (rtT s)
      · have HR := Lib.hid (rt_no (s := s) (fun h => by
          have : validTunB (rtT s) = true := by simpa [validTunB] using h.2
          rw [hval] at this; cases this))
        clear hval u0 u1
        have r0 := B0.out.at' 0 _ rfl
        have r1 := B0.out.at' 1 _ rfl
        have f0 := B0.out.fr 0
        have f1 := B0.out.fr 1
        have l0 := B0.out.lt
        go_wp2
        refine bodyPost_ret (v := .tuple #[.agg #[.string ⟨#[]⟩, .slice none 0 0], .bool false]) (by simp [results, Tryd.results51, go_sem, r0, r1, f0, f1, l0]) rfl ⟨_, by rw [HR.out.1], by rw [HR.out.2]; exact own_zeroT _ _ _, ?_⟩
        have hbw := HBW.out
        (repeat (first | with_reducible exact Below.refl _ _ | with_reducible exact hbw | (with_reducible refine Below.setCell ?_ ?_ _; rotate_left; · first | exact Nat.le_refl _ | omega | (simp; done) | (simp; omega)) | (with_reducible refine Below.alloc ?_ ?_ _; rotate_left; · first | exact Nat.le_refl _ | omega | (simp; done) | (simp; omega)) | with_reducible refine below_drewN ?_ _ | with_reducible refine Below.drew ?_))
      · have HR := Lib.hid (rt_yes (s := s) ((rtOk_of HW.out).2 ⟨fun p hp => by
          obtain ⟨q, hq, rfl⟩ := List.getElem_of_mem hp
          exact HN.out q hq hq, by rw [← HRT.out]; simpa [validTunB] using hval⟩))
        clear hval
        have r0 := B0.out.at' 0 _ rfl
        have r1 := B0.out.at' 1 _ rfl
        have f0 := B0.out.fr 0
        have f1 := B0.out.fr 1
        have l0 := B0.out.lt
        go_wp2
        refine bodyPost_ret (v := .tuple #[.agg #[.string (bytesB hd), .slice a' tl.length c'], .bool true]) (by simp [results, Tryd.results51, go_sem, r0, r1, f0, f1, l0]) rfl ⟨_, by rw [HR.out.1], ?_, ?_⟩
        · rw [HR.out.2, HRT.out]
          refine ⟨_, rfl, ?_⟩
          refine (HLV.out.touch (B' := w.heap.size) (E' := w.heap.size + 1) ?_ (Or.inr (by omega))).wide (by omega) (by first | (simp; done) | (simp; omega))
          have htc := Touch.refl w.heap.size (w.heap.size + 1) w2
          (repeat (first | with_reducible exact Touch.refl _ _ _ | with_reducible exact htc | (with_reducible refine Touch.setCell ?_ ?_ _; rotate_left; · (simp only; omega)) | (with_reducible refine Touch.setNew ?_ ?_ _; rotate_left; · (first | (simp only; omega) | (simp; done) | (simp; omega))) | with_reducible refine Touch.alloc ?_ _ | with_reducible refine Touch.drewN ?_ _ | with_reducible refine Touch.drew ?_))
        · have hbw := HBW.out
          (repeat (first | with_reducible exact Below.refl _ _ | with_reducible exact hbw | (with_reducible refine Below.setCell ?_ ?_ _; rotate_left; · first | exact Nat.le_refl _ | omega | (simp; done) | (simp; omega)) | (with_reducible refine Below.alloc ?_ ?_ _; rotate_left; · first | exact Nat.le_refl _ | omega | (simp; done) | (simp; omega)) | with_reducible refine below_drewN ?_ _ | with_reducible refine Below.drew ?_))

theorem specReadTune_any (s : ByteArray) (w : World) (hs : s.size ≤ 1048576) :
    Calls Tryd.prog 22 #[.string s] w (RdTune s w) := by
  have HR := Lib.hid fun w => l25Read_any s w hs
  clear hs
  go_enter Tryd.func22, Tryd.ntmps22
  go_wp2_with fail
  have B0 := Lib.hid (Box.alloc w [.string ⟨#[]⟩, .slice none 0 0] 35 w.heap.size rfl)
  refine (HR.out _).mono ?_
  rintro e w1 ⟨v, rfl, ho, hb1⟩
  obtain ⟨a1, c1, rfl⟩ := ho.form
  have HO := Lib.hid ho
  have B0 := Lib.hid (B0.out.mono hb1)
  have HB1 := Lib.hid (Below.trans (belowA w (.cells #[.string ⟨#[]⟩, .slice none 0 0] 35)) (hb1.mono (by simp)))
  have r0 := B0.out.at' 0 _ rfl
  have r1 := B0.out.at' 1 _ rfl
  have f0 := B0.out.fr 0
  have f1 := B0.out.fr 1
  have l0 := B0.out.lt
  obtain ⟨x, hx⟩ : ∃ x, x = rtV s := ⟨_, rfl⟩
  rw [← hx] at HO ⊢
  have HX := Lib.hid hx
  clear ho hb1 hx
  go_wp2
  refine bodyPost_ret (v := .tuple #[.agg #[.string x.name, .slice a1 x.tones.length c1], .bool (rtB s)]) (by simp [results, Tryd.results22, go_sem, r0, r1, f0, f1, l0]) rfl ⟨_, rfl, ?_, ?_⟩
  · rw [← HX.out]
    refine (HO.out.touch (B' := w.heap.size) (E' := w.heap.size + 1) ?_ (Or.inr (by simp))).wide (by simp) (by first | (simp; done) | (simp; omega))
    have htc := Touch.refl w.heap.size (w.heap.size + 1) w1
    (repeat (first | with_reducible exact Touch.refl _ _ _ | with_reducible exact htc | (with_reducible refine Touch.setCell ?_ ?_ _; rotate_left; · (simp only; omega)) | (with_reducible refine Touch.setNew ?_ ?_ _; rotate_left; · (first | (simp only; omega) | (simp; done) | (simp; omega))) | with_reducible refine Touch.alloc ?_ _ | with_reducible refine Touch.drewN ?_ _ | with_reducible refine Touch.drew ?_))
  · have hbw := HB1.out
    (repeat (first | with_reducible exact Below.refl _ _ | with_reducible exact hbw | (with_reducible refine Below.setCell ?_ ?_ _; rotate_left; · first | exact Nat.le_refl _ | omega | (simp; done) | (simp; omega)) | (with_reducible refine Below.alloc ?_ ?_ _; rotate_left; · first | exact Nat.le_refl _ | omega | (simp; done) | (simp; omega)) | with_reducible refine below_drewN ?_ _ | with_reducible refine Below.drew ?_))

end Go.Proofs.YtgdfecnpkjnhnaaDoor
