import Derived.Test.YtgdfecnpkjnhnaaGreatDoorFtZ14
import Derived.Test.YtgdfecnpkjnhnaaGreatDoorFtZ1
/- The program reads a tune. Contract of ReadTune. -/
set_option linter.unusedSimpArgs false
set_option linter.unnecessarySimpa false
set_option linter.unusedVariables false
set_option maxRecDepth 100000
namespace Go.Proofs.YtgdfecnpkjnhnaaGreatDoor
open Go.RowKit

theorem ReadDecimalQ_any (p : List UInt8) (w : World) (hs : (bytesB p).size ≤ 1048576) (hL : Lay w) :
    Calls Tryz.prog 27 #[.string (bytesB p)] w fun e w' => e = .returned (.tuple #[.int .i64 (numV p), .bool (numOk p)]) ∧ Below w.heap.size w w' := by
  have := ReadDecimal_any (bytesB p) w hs hL
  rwa [bytesB_list] at this
theorem CutP_any (p : List UInt8) (c : UInt8) (w : World) (hs : (bytesB p).size ≤ 1048576) (hL : Lay w) :
    Calls Tryz.prog 25 #[.string (bytesB p), .string ⟨#[c]⟩] w fun e w' => ∃ ok, e = .returned (.tuple #[.string (bytesB (Lib.cut p [c]).1), .string (bytesB (Lib.cut p [c]).2.1), .bool ok]) ∧ Below w.heap.size w w' := by
  obtain ⟨m, hm⟩ := hL.len
  have h := Tryz.strings_Cut (bytesB p) ⟨#[c]⟩ m w (by omega) hm
  rw [bytesB_list, show (⟨#[c]⟩ : ByteArray).data.toList = [c] from rfl] at h
  refine h.mono ?_
  rintro e w' ⟨rfl, n, rfl⟩
  exact ⟨_, rfl, below_drewN (Below.refl _ _) _⟩
theorem cut_len (p : List UInt8) (c : UInt8) : (Lib.cut p [c]).1.length ≤ p.length ∧ (Lib.cut p [c]).2.1.length ≤ p.length := by
  unfold Lib.cut
  split
  · simp only [List.length_take, List.length_drop]; omega
  · simp



set_option maxHeartbeats 8000000 in
theorem implReadTune_any (s : ByteArray) (w : World) (hs : s.size ≤ 1048576) (hL : Lay w) :
    Calls Tryz.prog 8 #[.string s] w (RdTune s w) := by
  have hw := words_cons s
  obtain ⟨hd, hhd⟩ : ∃ hd, hd = (words s).headD [] := ⟨_, rfl⟩
  obtain ⟨tl, htl⟩ : ∃ tl, tl = (words s).tail := ⟨_, rfl⟩
  rw [← hhd, ← htl] at hw
  have HW := Lib.hid hw
  have hlen := splitC_len_le 32 s.data.toList
  have hle : s.data.toList.length = s.size := by cases s; rfl
  have hcl : tl.length ≤ 1048576 := by
    have : (words s).length ≤ s.data.toList.length + 1 := hlen
    rw [hw, List.length_cons] at this; omega
  have HSP := Lib.hid fun w hL => split_any s 32 w hs hL
  have HLY := Lib.hid hL
  have HSZ := Lib.hid (show ∀ p ∈ hd :: tl, (bytesB p).size ≤ 1048576 from fun p hp => piece_size (c := 32) (by rw [← hw] at hp; exact hp) hs)
  have HNM := HSZ.out hd (by simp)
  have HAG := Lib.hid (rt_again (s := s))
  clear hs hw hhd htl hlen hle hL
  go_enter Tryz.func8, Tryz.ntmps8
  go_wp2_with fail
  have B0 := Lib.hid (Box.alloc w [.string ⟨#[]⟩, .slice none 0 0] 26 w.heap.size rfl)
  refine (HSP.out _ (HLY.out.mono (belowA _ _))).mono ?_
  rintro e w1 ⟨v, rfl, ht, hb1⟩
  rw [show splitC 32 s.data.toList = hd :: tl from HW.out] at ht
  have B0 := Lib.hid (B0.out.mono hb1)
  have HB1 := Lib.hid (Below.trans (belowA w (.cells #[.string ⟨#[]⟩, .slice none 0 0] 26)) (hb1.mono (by simp)))
  have hz1 : w.heap.size < w1.heap.size := B0.out.lt
  obtain ⟨g, c, rfl, hcc, hcell⟩ := ht
  have x0 := hcell 0 (by simp)
  have hg1 : g < w1.heap.size := World.block_lt_of_cell? w1 _ x0
  have HC := Lib.hid (show ∀ j (hj : j < tl.length), w1.cell? ⟨g, 1 + j, none⟩ = some (.string (bytesB tl[j])) from fun j hj => by
    have := hcell (j + 1) (by simp; omega)
    rw [Nat.add_comm 1 j]
    simpa using this)
  simp only [List.getElem_cons_zero] at x0
  rw [List.length_cons] at hcc
  clear hcell hb1
  have hlc : (hd :: tl).length = tl.length + 1 := rfl
  rw [hlc]
  clear hlc
  have BQ := Lib.hid (Box.alloc w1 [.string (bytesB hd), .slice none 0 0] 26 w1.heap.size rfl)
  have p0 : 0 < tl.length + 1 := by omega
  have p1 : 1 ≤ tl.length + 1 := by omega
  have p2 : (1 : Int) ≤ (tl.length : Int) + 1 := by omega
  by_cases hc1 : c = 1
  · have HT0 := Lib.hid (show tl.length = 0 by omega)
    clear hcc hcl p0 p2
    go_wp2_with fail
    go_loopw [7, 8, 9, 10, 11, 12, 13, 14, 24] (fun _ _ _ _ _ _ _ _ i wr => ∃ (j : Nat) (a' : Option Addr) (c' : Nat), j ≤ tl.length ∧ i = .int .i64 (j : Int) ∧ Box wr w1.heap.size [.string (bytesB hd), .slice a' j c'] ∧ wr.ownsRow (w1.heap.size + 1) 50 3 (.slice a' j c') j ((tonesTo tl j).flatMap Ton.cells) ∧ Below w1.heap.size w1 wr) (fun _ _ _ _ _ _ _ _ i _ => tl.length - (intOf i).toNat)
    case atStart => exact ⟨0, none, 0, Nat.zero_le _, by go_num, BQ.out, by simpa [tonesTo] using owns_nil _ 50 3 _, belowA _ _⟩
    case round =>
      obtain ⟨j, a', c', hj, rfl, hq, ho, hb⟩ := hrel
      have FQ := Lib.hid hq; have HO := Lib.hid ho; have HB := Lib.hid hb
      have hlq := hq.lt
      have hz := hb.size
      have B0 := Lib.hid (B0.out.mono (hb.mono (Nat.le_refl _)))
      have HBW := Lib.hid (HB1.out.trans (hb.mono (by omega)))
      have HLr := Lib.hid (HLY.out.mono HBW.out)
      clear BQ hq ho
      have hlt : ¬ j < tl.length := by have := HT0.out; omega
      have hcl : tl.length ≤ 1048576 := by have := HT0.out; omega
      obtain rfl : j = tl.length := by omega
      have HLV := Lib.hid (show OwnRow (w1.heap.size + 1) wr.heap.size wr 50 3 (.slice a' tl.length c') (tl.map toneV).length ((tl.map toneV).flatMap Ton.cells) by
        have := HO.out
        rw [tonesTo_all] at this
        rw [List.length_map]
        exact OwnRow.mk' this)
      have HRT := Lib.hid (rtT_of HW.out)
      have u0 := FQ.out.at' 0 _ rfl
      have u1 := FQ.out.at' 1 _ rfl
      have HTU := Lib.hid (show Tons wr (.slice a' tl.length c') (tl.map toneV) from by
        have := HLV.out.1
        exact Tons.of_owns this)
      have HOK := Lib.hid (show (⟨bytesB hd, tl.map toneV⟩ : TunD).ok from ⟨by unfold maxLen; simp only; omega, fun t ht => by
        obtain ⟨p, _, rfl⟩ := List.mem_map.1 ht
        have := nnV_bd (Lib.cut p [64]).1
        exact ⟨small64 (by show -1 ≤ nnV _; omega) (by show nnV _ ≤ _; omega), num_i64 _, num_i64 _⟩⟩)
      have HLL := Lib.hid (show (⟨bytesB hd, tl.map toneV⟩ : TunD).tones.length ≤ 1048576 by simp only [List.length_map]; exact hcl)
      have HTO := Lib.hid (show TunOk (rtT s) ↔ validTunB ⟨bytesB hd, tl.map toneV⟩ = true by rw [HRT.out]; simp [validTunB])
      clear HO hb
      go_wp2_with fail
      refine (implValidTun_any _ (.slice a' tl.length c') ⟨bytesB hd, tl.map toneV⟩ _ ⟨rfl, HTU.out⟩ HOK.out.1).mono ?_
      cases hval : validTunB ⟨bytesB hd, tl.map toneV⟩
      · have HR := Lib.hid (rt_no (s := s) (fun h => by
          have := HTO.out.1 h.2
          rw [hval] at this; cases this))
        rintro e w2 ⟨rfl, hb2⟩
        have B0 := Lib.hid (B0.out.mono hb2)
        have HBW := Lib.hid (HBW.out.trans (hb2.mono HBW.out.size))
        clear hval u0 u1 hb2
        have r0 := B0.out.at' 0 _ rfl
        have r1 := B0.out.at' 1 _ rfl
        have f0 := B0.out.fr 0
        have f1 := B0.out.fr 1
        have l0 := B0.out.lt
        go_wp2
        refine bodyPost_ret (v := .tuple #[.agg #[.string ⟨#[]⟩, .slice none 0 0], .bool false]) (by simp [results, Tryz.results8, go_sem, r0, r1, f0, f1, l0]) rfl ⟨_, by rw [HR.out.1], by rw [HR.out.2]; exact own_zeroT _ _ _, ?_⟩
        have hbw := HBW.out
        (repeat (first | with_reducible exact Below.refl _ _ | with_reducible exact hbw | (with_reducible refine Below.setCell ?_ ?_ _; rotate_left; · first | exact Nat.le_refl _ | omega | (simp; done) | (simp; omega)) | (with_reducible refine Below.alloc ?_ ?_ _; rotate_left; · first | exact Nat.le_refl _ | omega | (simp; done) | (simp; omega)) | with_reducible refine below_drewN ?_ _ | with_reducible refine Below.drew ?_))
      rintro e w2 ⟨rfl, hb2⟩
      have hz2 := hb2.size
      have B0 := Lib.hid (B0.out.mono hb2)
      have HBW := Lib.hid (HBW.out.trans (hb2.mono HBW.out.size))
      have HLV := Lib.hid (HLV.out.mono hb2)
      have HTU := Lib.hid (HTU.out.mono hb2)
      have u0 := cellB hb2 u0
      have u1 := cellB hb2 u1
      have hlq2 : w1.heap.size < w2.heap.size := by omega
      have HVA := Lib.hid hval
      clear hval hb2
      go_wp2_with fail
      refine (implTuneText_any _ ⟨bytesB hd, tl.map toneV⟩ _ ⟨.slice a' tl.length c', rfl, HTU.out⟩ HOK.out HLL.out (HLY.out.mono HBW.out).tab).mono ?_
      rintro e w3 ⟨rfl, hb3⟩
      have hz3 := hb3.size
      have B0 := Lib.hid (B0.out.mono hb3)
      have HBW := Lib.hid (HBW.out.trans (hb3.mono HBW.out.size))
      have HLV := Lib.hid (HLV.out.mono hb3)
      have u0 := cellB hb3 u0
      have u1 := cellB hb3 u1
      clear hb3
      by_cases hts : tunT ⟨bytesB hd, tl.map toneV⟩ = s
      · have HR := Lib.hid (rt_yes (s := s) (HAG.out.2 ⟨by rw [HRT.out]; exact HVA.out, by rw [HRT.out]; exact hts⟩))
        rw [hts]
        clear hts
        have r0 := B0.out.at' 0 _ rfl
        have r1 := B0.out.at' 1 _ rfl
        have f0 := B0.out.fr 0
        have f1 := B0.out.fr 1
        have l0 := B0.out.lt
        go_wp2
        refine bodyPost_ret (v := .tuple #[.agg #[.string (bytesB hd), .slice a' tl.length c'], .bool true]) (by simp [results, Tryz.results8, go_sem, r0, r1, f0, f1, l0]) rfl ⟨_, by rw [HR.out.1], ?_, ?_⟩
        · rw [HR.out.2, HRT.out]
          refine ⟨_, rfl, ?_⟩
          refine (HLV.out.touch (B' := w.heap.size) (E' := w.heap.size + 1) ?_ (Or.inr (by omega))).wide (by omega) (by first | (simp; done) | (simp; omega))
          have htc := Touch.refl w.heap.size (w.heap.size + 1) w3
          (repeat (first | with_reducible exact Touch.refl _ _ _ | with_reducible exact htc | (with_reducible refine Touch.setCell ?_ ?_ _; rotate_left; · (simp only; omega)) | (with_reducible refine Touch.setNew ?_ ?_ _; rotate_left; · (first | (simp only; omega) | (simp; done) | (simp; omega))) | with_reducible refine Touch.alloc ?_ _ | with_reducible refine Touch.drewN ?_ _ | with_reducible refine Touch.drew ?_))
        · have hbw := HBW.out
          (repeat (first | with_reducible exact Below.refl _ _ | with_reducible exact hbw | (with_reducible refine Below.setCell ?_ ?_ _; rotate_left; · first | exact Nat.le_refl _ | omega | (simp; done) | (simp; omega)) | (with_reducible refine Below.alloc ?_ ?_ _; rotate_left; · first | exact Nat.le_refl _ | omega | (simp; done) | (simp; omega)) | with_reducible refine below_drewN ?_ _ | with_reducible refine Below.drew ?_))
      · have HR := Lib.hid (rt_no (s := s) (fun h => hts (by have := (HAG.out.1 h).2; rw [HRT.out] at this; exact this)))
        have he : ((tunT ⟨bytesB hd, tl.map toneV⟩).toList == s.toList) = false := by rw [strEq]; exact decide_eq_false hts
        clear hts u0 u1
        have r0 := B0.out.at' 0 _ rfl
        have r1 := B0.out.at' 1 _ rfl
        have f0 := B0.out.fr 0
        have f1 := B0.out.fr 1
        have l0 := B0.out.lt
        go_wp2
        refine bodyPost_ret (v := .tuple #[.agg #[.string ⟨#[]⟩, .slice none 0 0], .bool false]) (by simp [results, Tryz.results8, go_sem, r0, r1, f0, f1, l0]) rfl ⟨_, by rw [HR.out.1], by rw [HR.out.2]; exact own_zeroT _ _ _, ?_⟩
        have hbw := HBW.out
        (repeat (first | with_reducible exact Below.refl _ _ | with_reducible exact hbw | (with_reducible refine Below.setCell ?_ ?_ _; rotate_left; · first | exact Nat.le_refl _ | omega | (simp; done) | (simp; omega)) | (with_reducible refine Below.alloc ?_ ?_ _; rotate_left; · first | exact Nat.le_refl _ | omega | (simp; done) | (simp; omega)) | with_reducible refine below_drewN ?_ _ | with_reducible refine Below.drew ?_))
  · go_wp2_with fail
    go_loopw [7, 8, 9, 10, 11, 12, 13, 14, 24] (fun _ _ _ _ _ _ _ _ i wr => ∃ (j : Nat) (a' : Option Addr) (c' : Nat), j ≤ tl.length ∧ i = .int .i64 (j : Int) ∧ Box wr w1.heap.size [.string (bytesB hd), .slice a' j c'] ∧ wr.ownsRow (w1.heap.size + 1) 50 3 (.slice a' j c') j ((tonesTo tl j).flatMap Ton.cells) ∧ Below w1.heap.size w1 wr) (fun _ _ _ _ _ _ _ _ i _ => tl.length - (intOf i).toNat)
    case atStart => exact ⟨0, none, 0, Nat.zero_le _, by go_num, BQ.out, by simpa [tonesTo] using owns_nil _ 50 3 _, belowA _ _⟩
    case round =>
      obtain ⟨j, a', c', hj, rfl, hq, ho, hb⟩ := hrel
      have FQ := Lib.hid hq; have HO := Lib.hid ho; have HB := Lib.hid hb
      have hlq := hq.lt
      have hz := hb.size
      have B0 := Lib.hid (B0.out.mono (hb.mono (Nat.le_refl _)))
      have HBW := Lib.hid (HB1.out.trans (hb.mono (by omega)))
      have HLr := Lib.hid (HLY.out.mono HBW.out)
      clear BQ hq ho
      by_cases hlt : j < tl.length
      · skip
        have e1 := cellB hb (HC.out j hlt)
        have HS1 := Lib.hid (HSZ.out tl[j] (by simp))
        have HS2 := Lib.hid (show ∀ q : List UInt8, q.length ≤ tl[j].length → (bytesB q).size ≤ 1048576 from fun q hq => by have := HS1.out; rw [bytesB_size] at *; omega)
        have HST := Lib.hid (tonesTo_step hlt)
        have hil2 : (j : Int) < (tl.length : Int) := by omega
        clear hb
        go_wp2_with fail
        refine (CutP_any tl[j] 64 _ HS1.out HLr.out).mono ?_
        rintro e w2 ⟨ok1, rfl, hb2⟩
        have L2 := Lib.hid (HLr.out.mono hb2)
        have hz2 := hb2.size
        go_wp2_with fail
        refine (CutP_any (Lib.cut tl[j] [64]).2.1 43 _ (HS2.out _ (cut_len _ _).2) L2.out).mono ?_
        rintro e w3 ⟨ok2, rfl, hb3⟩
        have Z3 := Lib.hid (hb2.trans (hb3.mono hz2))
        have hz3 := Z3.out.size
        have HSC := Lib.hid (HS2.out _ (Nat.le_trans (cut_len (Lib.cut tl[j] [64]).2.1 43).1 (cut_len tl[j] 64).2))
        have HSD := Lib.hid (HS2.out _ (Nat.le_trans (cut_len (Lib.cut tl[j] [64]).2.1 43).2 (cut_len tl[j] 64).2))
        have TV := Lib.hid (show toneV tl[j] = ⟨nnV (Lib.cut tl[j] [64]).1, numV (Lib.cut (Lib.cut tl[j] [64]).2.1 [43]).1, numV (Lib.cut (Lib.cut tl[j] [64]).2.1 [43]).2.1⟩ from rfl)
        obtain ⟨xa, hxa⟩ : ∃ q, q = (Lib.cut tl[j] [64]).1 := ⟨_, rfl⟩
        obtain ⟨xc, hxc⟩ : ∃ q, q = (Lib.cut (Lib.cut tl[j] [64]).2.1 [43]).1 := ⟨_, rfl⟩
        obtain ⟨xd, hxd⟩ : ∃ q, q = (Lib.cut (Lib.cut tl[j] [64]).2.1 [43]).2.1 := ⟨_, rfl⟩
        rw [← hxc] at HSC
        rw [← hxd] at HSD
        rw [← hxa, ← hxc, ← hxd] at TV
        rw [← hxa, ← hxc, ← hxd]
        clear hb2 hb3 hxa hxc hxd e1
        obtain ⟨hx, hh⟩ : ∃ h, h = w3.heap.size := ⟨_, rfl⟩
        have hzx : wr.heap.size ≤ hx := by omega
        have BX := Lib.hid (Box.alloc w3 [.int .i64 0, .int .i64 0, .int .i64 0] 50 hx hh.symm)
        have Z4 := Lib.hid (Z3.out.trans ((belowA w3 (.cells #[.int .i64 0, .int .i64 0, .int .i64 0] 50)).mono hz3))
        go_wp2_with fail
        rw [← hh]
        have HH := Lib.hid hh
        clear hh
        refine (implNoteNamed_any xa _ (HLr.out.mono Z4.out).tab).mono ?_
        rintro e w4 ⟨rfl, hb4⟩
        have hz4 := hb4.size
        simp only [World.size_alloc] at hz4
        rw [← HH.out] at hz4
        have BX := Lib.hid (BX.out.mono hb4)
        have Z5 := Lib.hid (Z4.out.trans (hb4.mono (by simp; omega)))
        clear hb4 Z4 Z3
        have c0 := BX.out.at' 0 _ rfl
        have g0 := BX.out.fr 0
        have l0 := BX.out.lt
        have BX := Lib.hid (BX.out.set (j := 0) (.int .i64 (nnV xa)) (by simp))
        have Z5 := Lib.hid (((Touch.refl hx (hx + 1) w4).setCell (p := ⟨hx, 0, none⟩) (by simp) (.int .i64 (nnV xa))).below Z5.out (by omega) (by omega))
        have s5 : (w4.setCell ⟨hx, 0, none⟩ (.int .i64 (nnV xa))).heap.size = w4.heap.size := by simp [World.setCell]
        go_wp2_with fail
        generalize w4.setCell ⟨hx, 0, none⟩ (.int .i64 (nnV xa)) = W5 at BX Z5 s5 ⊢
        refine (ReadDecimalQ_any xc _ HSC.out (HLr.out.mono Z5.out)).mono ?_
        rintro e w6 ⟨rfl, hb6⟩
        have hz6 := hb6.size
        have BX := Lib.hid (BX.out.mono hb6)
        have Z6 := Lib.hid (Z5.out.trans (hb6.mono (by omega)))
        clear hb6 c0 g0 l0 Z5
        have c0 := BX.out.at' 1 _ rfl
        have g0 := BX.out.fr 1
        have l0 := BX.out.lt
        have BX := Lib.hid (BX.out.set (j := 1) (.int .i64 (numV xc)) (by simp))
        have Z6 := Lib.hid (((Touch.refl hx (hx + 1) w6).setCell (p := ⟨hx, 1, none⟩) (by simp) (.int .i64 (numV xc))).below Z6.out (by omega) (by omega))
        have s6 : (w6.setCell ⟨hx, 1, none⟩ (.int .i64 (numV xc))).heap.size = w6.heap.size := by simp [World.setCell]
        go_wp2_with fail
        generalize w6.setCell ⟨hx, 1, none⟩ (.int .i64 (numV xc)) = W6 at BX Z6 s6 ⊢
        refine (ReadDecimalQ_any xd _ HSD.out (HLr.out.mono Z6.out)).mono ?_
        rintro e w7 ⟨rfl, hb7⟩
        have hz7 := hb7.size
        have BX := Lib.hid (BX.out.mono hb7)
        have Z7 := Lib.hid (Z6.out.trans (hb7.mono (by omega)))
        clear hb7 c0 g0 l0 Z6
        have c0 := BX.out.at' 2 _ rfl
        have g0 := BX.out.fr 2
        have l0 := BX.out.lt
        have BX := Lib.hid (BX.out.set (j := 2) (.int .i64 (numV xd)) (by simp))
        have Z7 := Lib.hid (((Touch.refl hx (hx + 1) w7).setCell (p := ⟨hx, 2, none⟩) (by simp) (.int .i64 (numV xd))).below Z7.out (by omega) (by omega))
        have s7 : (w7.setCell ⟨hx, 2, none⟩ (.int .i64 (numV xd))).heap.size = w7.heap.size := by simp [World.setCell]
        obtain ⟨W7, hW7⟩ : ∃ W, W = w7.setCell ⟨hx, 2, none⟩ (.int .i64 (numV xd)) := ⟨_, rfl⟩
        rw [← hW7] at BX Z7 s7
        have FW := Lib.hid (FQ.out.mono Z7.out)
        have HOW := Lib.hid (owns_mono HO.out Z7.out)
        have HB7 := Lib.hid (HB.out.trans (Z7.out.mono hz))
        have z0 := BX.out.at' 0 _ rfl
        have z1 := BX.out.at' 1 _ rfl
        have z2 := BX.out.at' 2 _ rfl
        have y1 := FW.out.at' 1 _ rfl
        have hjx : j ≤ 1048576 := by omega
        rw [hW7] at z0 z1 z2 y1 HOW
        clear HO FQ
        go_wp2_with (at_builtin; refine append_one_at rfl _ _ 24 rfl (w1.heap.size + 1) 50 _ 3 24 Tryz.underlying24 info_Tone rfl (by decide) _ j _ rfl HOW.out [.int .i64 (nnV xa), .int .i64 (numV xc), .int .i64 (numV xd)] rfl (by simp [Value.oneCell']) w7.heap.size (by simp [World.setCell]) rfl (by omega) (by decide) (by simp [World.setCell]; omega) ?_)
        intro a7 c7 w8 ho7 hg7 hb8 _
        have hst : Below (w1.heap.size + 1) W7 w8 := by rw [hW7]; exact hb8
        have bq := FW.out.step hst (by omega)
        have c5 := bq.at' 1 _ rfl
        have g5 := bq.fr 1
        have l5 := bq.lt
        have GQ := Lib.hid (bq.set (j := 1) (.slice a7 (j + 1) c7) (by simp))
        have GO := Lib.hid (ownsRow_setCell_below (a := ⟨w1.heap.size, 1, none⟩) ho7 (by simp) (.slice a7 (j + 1) c7))
        have hz5 := hst.size
        have GB := Lib.hid (((Touch.refl w1.heap.size (w1.heap.size + 1) w8).setCell (p := ⟨w1.heap.size, 1, none⟩) (by simp) (.slice a7 (j + 1) c7)).below (HB7.out.trans (hst.mono (by omega))) (Nat.le_refl _) (by omega))
        clear ho7 hg7 hb8 hst bq y1 FW HOW HB7 z0 z1 z2 c0 g0 l0 hW7 BX Z7
        go_wp2
        go_roundw
        case rel => exact ⟨j + 1, a7, c7, by omega, by go_num, GQ.out, by rw [HST.out, TV.out, List.flatMap_append]; exact GO.out, GB.out⟩
        case measure => simp [intOf] <;> omega
      · skip
        obtain rfl : j = tl.length := by omega
        have HLV := Lib.hid (show OwnRow (w1.heap.size + 1) wr.heap.size wr 50 3 (.slice a' tl.length c') (tl.map toneV).length ((tl.map toneV).flatMap Ton.cells) by
          have := HO.out
          rw [tonesTo_all] at this
          rw [List.length_map]
          exact OwnRow.mk' this)
        have HRT := Lib.hid (rtT_of HW.out)
        have u0 := FQ.out.at' 0 _ rfl
        have u1 := FQ.out.at' 1 _ rfl
        have HTU := Lib.hid (show Tons wr (.slice a' tl.length c') (tl.map toneV) from by
          have := HLV.out.1
          exact Tons.of_owns this)
        have HOK := Lib.hid (show (⟨bytesB hd, tl.map toneV⟩ : TunD).ok from ⟨by unfold maxLen; simp only; omega, fun t ht => by
          obtain ⟨p, _, rfl⟩ := List.mem_map.1 ht
          have := nnV_bd (Lib.cut p [64]).1
          exact ⟨small64 (by show -1 ≤ nnV _; omega) (by show nnV _ ≤ _; omega), num_i64 _, num_i64 _⟩⟩)
        have HLL := Lib.hid (show (⟨bytesB hd, tl.map toneV⟩ : TunD).tones.length ≤ 1048576 by simp only [List.length_map]; exact hcl)
        have HTO := Lib.hid (show TunOk (rtT s) ↔ validTunB ⟨bytesB hd, tl.map toneV⟩ = true by rw [HRT.out]; simp [validTunB])
        clear HO hb
        go_wp2_with fail
        refine (implValidTun_any _ (.slice a' tl.length c') ⟨bytesB hd, tl.map toneV⟩ _ ⟨rfl, HTU.out⟩ HOK.out.1).mono ?_
        cases hval : validTunB ⟨bytesB hd, tl.map toneV⟩
        · have HR := Lib.hid (rt_no (s := s) (fun h => by
            have := HTO.out.1 h.2
            rw [hval] at this; cases this))
          rintro e w2 ⟨rfl, hb2⟩
          have B0 := Lib.hid (B0.out.mono hb2)
          have HBW := Lib.hid (HBW.out.trans (hb2.mono HBW.out.size))
          clear hval u0 u1 hb2
          have r0 := B0.out.at' 0 _ rfl
          have r1 := B0.out.at' 1 _ rfl
          have f0 := B0.out.fr 0
          have f1 := B0.out.fr 1
          have l0 := B0.out.lt
          go_wp2
          refine bodyPost_ret (v := .tuple #[.agg #[.string ⟨#[]⟩, .slice none 0 0], .bool false]) (by simp [results, Tryz.results8, go_sem, r0, r1, f0, f1, l0]) rfl ⟨_, by rw [HR.out.1], by rw [HR.out.2]; exact own_zeroT _ _ _, ?_⟩
          have hbw := HBW.out
          (repeat (first | with_reducible exact Below.refl _ _ | with_reducible exact hbw | (with_reducible refine Below.setCell ?_ ?_ _; rotate_left; · first | exact Nat.le_refl _ | omega | (simp; done) | (simp; omega)) | (with_reducible refine Below.alloc ?_ ?_ _; rotate_left; · first | exact Nat.le_refl _ | omega | (simp; done) | (simp; omega)) | with_reducible refine below_drewN ?_ _ | with_reducible refine Below.drew ?_))
        rintro e w2 ⟨rfl, hb2⟩
        have hz2 := hb2.size
        have B0 := Lib.hid (B0.out.mono hb2)
        have HBW := Lib.hid (HBW.out.trans (hb2.mono HBW.out.size))
        have HLV := Lib.hid (HLV.out.mono hb2)
        have HTU := Lib.hid (HTU.out.mono hb2)
        have u0 := cellB hb2 u0
        have u1 := cellB hb2 u1
        have hlq2 : w1.heap.size < w2.heap.size := by omega
        have HVA := Lib.hid hval
        clear hval hb2
        go_wp2_with fail
        refine (implTuneText_any _ ⟨bytesB hd, tl.map toneV⟩ _ ⟨.slice a' tl.length c', rfl, HTU.out⟩ HOK.out HLL.out (HLY.out.mono HBW.out).tab).mono ?_
        rintro e w3 ⟨rfl, hb3⟩
        have hz3 := hb3.size
        have B0 := Lib.hid (B0.out.mono hb3)
        have HBW := Lib.hid (HBW.out.trans (hb3.mono HBW.out.size))
        have HLV := Lib.hid (HLV.out.mono hb3)
        have u0 := cellB hb3 u0
        have u1 := cellB hb3 u1
        clear hb3
        by_cases hts : tunT ⟨bytesB hd, tl.map toneV⟩ = s
        · have HR := Lib.hid (rt_yes (s := s) (HAG.out.2 ⟨by rw [HRT.out]; exact HVA.out, by rw [HRT.out]; exact hts⟩))
          rw [hts]
          clear hts
          have r0 := B0.out.at' 0 _ rfl
          have r1 := B0.out.at' 1 _ rfl
          have f0 := B0.out.fr 0
          have f1 := B0.out.fr 1
          have l0 := B0.out.lt
          go_wp2
          refine bodyPost_ret (v := .tuple #[.agg #[.string (bytesB hd), .slice a' tl.length c'], .bool true]) (by simp [results, Tryz.results8, go_sem, r0, r1, f0, f1, l0]) rfl ⟨_, by rw [HR.out.1], ?_, ?_⟩
          · rw [HR.out.2, HRT.out]
            refine ⟨_, rfl, ?_⟩
            refine (HLV.out.touch (B' := w.heap.size) (E' := w.heap.size + 1) ?_ (Or.inr (by omega))).wide (by omega) (by first | (simp; done) | (simp; omega))
            have htc := Touch.refl w.heap.size (w.heap.size + 1) w3
            (repeat (first | with_reducible exact Touch.refl _ _ _ | with_reducible exact htc | (with_reducible refine Touch.setCell ?_ ?_ _; rotate_left; · (simp only; omega)) | (with_reducible refine Touch.setNew ?_ ?_ _; rotate_left; · (first | (simp only; omega) | (simp; done) | (simp; omega))) | with_reducible refine Touch.alloc ?_ _ | with_reducible refine Touch.drewN ?_ _ | with_reducible refine Touch.drew ?_))
          · have hbw := HBW.out
            (repeat (first | with_reducible exact Below.refl _ _ | with_reducible exact hbw | (with_reducible refine Below.setCell ?_ ?_ _; rotate_left; · first | exact Nat.le_refl _ | omega | (simp; done) | (simp; omega)) | (with_reducible refine Below.alloc ?_ ?_ _; rotate_left; · first | exact Nat.le_refl _ | omega | (simp; done) | (simp; omega)) | with_reducible refine below_drewN ?_ _ | with_reducible refine Below.drew ?_))
        · have HR := Lib.hid (rt_no (s := s) (fun h => hts (by have := (HAG.out.1 h).2; rw [HRT.out] at this; exact this)))
          have he : ((tunT ⟨bytesB hd, tl.map toneV⟩).toList == s.toList) = false := by rw [strEq]; exact decide_eq_false hts
          clear hts u0 u1
          have r0 := B0.out.at' 0 _ rfl
          have r1 := B0.out.at' 1 _ rfl
          have f0 := B0.out.fr 0
          have f1 := B0.out.fr 1
          have l0 := B0.out.lt
          go_wp2
          refine bodyPost_ret (v := .tuple #[.agg #[.string ⟨#[]⟩, .slice none 0 0], .bool false]) (by simp [results, Tryz.results8, go_sem, r0, r1, f0, f1, l0]) rfl ⟨_, by rw [HR.out.1], by rw [HR.out.2]; exact own_zeroT _ _ _, ?_⟩
          have hbw := HBW.out
          (repeat (first | with_reducible exact Below.refl _ _ | with_reducible exact hbw | (with_reducible refine Below.setCell ?_ ?_ _; rotate_left; · first | exact Nat.le_refl _ | omega | (simp; done) | (simp; omega)) | (with_reducible refine Below.alloc ?_ ?_ _; rotate_left; · first | exact Nat.le_refl _ | omega | (simp; done) | (simp; omega)) | with_reducible refine below_drewN ?_ _ | with_reducible refine Below.drew ?_))

theorem rtV_len (s : ByteArray) : (rtV s).tones.length ≤ 128 := by
  unfold rtV
  split
  · rename_i h
    exact (of_decide_eq_true h : rtOk s).2.len
  · simp

end Go.Proofs.YtgdfecnpkjnhnaaGreatDoor
/- The laws' test of the lengths of two rows of bytes. -/
set_option linter.unusedSimpArgs false
set_option linter.unnecessarySimpa false
set_option linter.unusedVariables false
set_option maxRecDepth 100000
namespace Go.Proofs.YtgdfecnpkjnhnaaGreatDoor
open Go.RowKit

theorem r8Long_any (r : Bool) (a b : Option Addr) (n m c d : Nat) (w : World) (hn : n ≤ 9223372036854775807) (hm : m ≤ 9223372036854775807) (hr : r = (decide (1048576 < (n : Int)) || decide (1048576 < (m : Int)))) : Calls Tryz.prog 4 #[.slice a n c, .slice b m d] w fun e w' => e = .returned (.bool r) ∧ w = w' := by
  by_cases g : 1048576 < (n : Int)
  · have d1 : decide (1048576 < (n : Int)) = true := by simpa using g
    have d2 : decide (1048576 < n) = true := by simp; omega
    have D := Lib.hid (show r = true by rw [hr, d1]; rfl)
    clear g hr
    go_enter Tryz.func4, Tryz.ntmps4
    go_wp2
    go_ret
    exact ⟨by rw [D.out]; rfl, rfl⟩
  · have d1 : decide (1048576 < (n : Int)) = false := by simpa using g
    have d2 : decide (1048576 < n) = false := by simp; omega
    have D := Lib.hid (show r = decide (1048576 < (m : Int)) by rw [hr, d1]; rfl)
    clear g hr
    go_enter Tryz.func4, Tryz.ntmps4
    go_wp2
    go_ret
    exact ⟨by rw [D.out]; rfl, rfl⟩

end Go.Proofs.YtgdfecnpkjnhnaaGreatDoor
