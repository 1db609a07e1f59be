/- The law FnExactAppendTune returns true and leaves memory as it was. -/
import Derived.Test.YtfnbjegbaobpnaaAppS
import Derived.Test.YtfnbjegbaobpnaaKTun
import Derived.Test.YtfnbjegbaobpnaaRegF
set_option linter.unusedSimpArgs false
set_option linter.unnecessarySimpa false
set_option linter.unusedVariables false
set_option maxRecDepth 100000
namespace Go.Proofs.Ytfnbjegbaobpnaa
open Go.RowKit

set_option maxHeartbeats 4000000 in
theorem lawAppendTune (w : World) (v0 : Value) (y0 : Value × TunD) (h0 : Tun w v0 y0.1 y0.2) (o0 : y0.2.ok) (v1 : Value) (y1 : Value × TunD) (h1 : Tun w v1 y1.1 y1.2) (o1 : y1.2.ok) (n2 : Int) (o2 : I64 n2) :
    Calls Try.prog 11 #[v0, v1, .int .i64 n2] w fun e w' => e = .returned (.bool true) ∧ Below w.heap.size w w' := by
  obtain ⟨l0, x0⟩ := y0
  obtain ⟨rfl, hl0⟩ := h0
  simp only at hl0 o0 ⊢
  have r0 : RdTun w (.agg #[.string (x0).name, l0]) x0 := ⟨l0, rfl, hl0⟩
  obtain ⟨l1, x1⟩ := y1
  obtain ⟨rfl, hl1⟩ := h1
  simp only at hl1 o1 ⊢
  have r1 : RdTun w (.agg #[.string (x1).name, l1]) x1 := ⟨l1, rfl, hl1⟩
  by_cases g0 : szTun x0 ≤ 1048576
  · skip
    by_cases g1 : szTun x0 + szTun x1 ≤ 1048576
    · skip
      have q0 : (x0).tones.length ≤ 1048576 := by have := g0; unfold szTun at this; omega
      have q1 : (x1).tones.length ≤ 1048576 := by have := g1; unfold szTun at this; omega
      have hbd := ap_len x0 x1 n2
      go_enter Try.func11, Try.ntmps11
      go_wp2_with fail
      refine (szTunY _ (x0) (1048576) _ (r0.mono (by (repeat (first | with_reducible exact Below.refl _ _ | with_reducible exact hbw | (with_reducible refine Below.setCell ?_ ?_ _; rotate_left; · first | exact Nat.le_refl _ | omega | (simp; done) | (simp; omega)) | (with_reducible refine Below.alloc ?_ ?_ _; rotate_left; · first | exact Nat.le_refl _ | omega | (simp; done) | (simp; omega)) | with_reducible refine below_drewN ?_ _ | with_reducible refine Below.drew ?_)))) o0 (by omega) (by omega) (by omega)).mono ?_
      rintro e w1 ⟨rfl, h1⟩
      have st1 : Below w.heap.size w w1 := Below.trans (by (repeat (first | with_reducible exact Below.refl _ _ | with_reducible exact hbw | (with_reducible refine Below.setCell ?_ ?_ _; rotate_left; · first | exact Nat.le_refl _ | omega | (simp; done) | (simp; omega)) | (with_reducible refine Below.alloc ?_ ?_ _; rotate_left; · first | exact Nat.le_refl _ | omega | (simp; done) | (simp; omega)) | with_reducible refine below_drewN ?_ _ | with_reducible refine Below.drew ?_))) (h1.mono (by first | exact Nat.le_refl _ | omega | (simp; done) | (simp; omega)))
      have sz1 : w.heap.size + 2 ≤ w1.heap.size := by have := h1.size; simp at this ⊢; omega
      have bw1 : Below w.heap.size w w1 := st1
      have x2 : w1.cell? ⟨w.heap.size, 0, none⟩ = some (.string (x0).name) := cellB h1 (by simp [go_sem])
      have x3 : w1.cell? ⟨w.heap.size, 1, none⟩ = some (l0) := cellB h1 (by simp [go_sem])
      have l4 : w.heap.size < w1.heap.size := by omega
      have x5 : w1.cell? ⟨w.heap.size + 1, 0, none⟩ = some (.string (x1).name) := cellB h1 (by simp [go_sem])
      have x6 : w1.cell? ⟨w.heap.size + 1, 1, none⟩ = some (l1) := cellB h1 (by simp [go_sem])
      have l7 : w.heap.size + 1 < w1.heap.size := by omega
      clear h1
      go_wp2_with fail
      refine (szTunY _ (x1) (1048576 - (szTun (x0) : Int)) _ (r1.mono (by have hbw := bw1; (repeat (first | with_reducible exact Below.refl _ _ | with_reducible exact hbw | (with_reducible refine Below.setCell ?_ ?_ _; rotate_left; · first | exact Nat.le_refl _ | omega | (simp; done) | (simp; omega)) | (with_reducible refine Below.alloc ?_ ?_ _; rotate_left; · first | exact Nat.le_refl _ | omega | (simp; done) | (simp; omega)) | with_reducible refine below_drewN ?_ _ | with_reducible refine Below.drew ?_)))) o1 (by omega) (by omega) (by omega)).mono ?_
      rintro e w2 ⟨rfl, h2⟩
      have sz2 : w1.heap.size ≤ w2.heap.size := h2.size
      have bw2 : Below w.heap.size w w2 := bw1.trans (h2.mono bw1.size)
      have x9 : w2.cell? ⟨w.heap.size, 0, none⟩ = some (.string (x0).name) := cellB h2 x2
      have x10 : w2.cell? ⟨w.heap.size, 1, none⟩ = some (l0) := cellB h2 x3
      have l11 : w.heap.size < w2.heap.size := by omega
      have x12 : w2.cell? ⟨w.heap.size + 1, 0, none⟩ = some (.string (x1).name) := cellB h2 x5
      have x13 : w2.cell? ⟨w.heap.size + 1, 1, none⟩ = some (l1) := cellB h2 x6
      have l14 : w.heap.size + 1 < w2.heap.size := by omega
      clear x2 x3 l4 x5 x6 l7
      go_wp2_with fail
      refine wp_region_float 9 [(0, some true), (2, some true), (4, some true), (1, some false), (3, some false), (5, some false), (6, some true), (7, some true), (8, some true), (9, none), (10, some false), (11, some true)] (by kernel_rfl) (by kernel_rfl) ?_
      (repeat (with_reducible refine wpOrdF_soft (fun K hK => ?_); simp only [List.getElem?_toArray, List.getElem?_cons_zero, List.getElem?_cons_succ]; first | (go_simp; refine hK _ ?_) | (simp only [undef]; go_simp; refine hK _ ?_); clear hK K))
      refine wpOrdF_hard (d := 8) (obj := (.cells #[.string ⟨#[]⟩, .slice none 0 0] 29)) (fun K a w h => wpOp_only (by simp only [List.getElem?_toArray, List.getElem?_cons_zero, List.getElem?_cons_succ]; go_wp2_with fail; exact h)) (by simp) (grown_draw _) (Fl.start _ _ _) ?_
      intro pd3 u3 w3 hs3 _ hf3
      have st15 : Below w2.heap.size w2 w3 := undrew hs3
      have sz3 : w2.heap.size ≤ w3.heap.size := st15.size
      have bw3 : Below w.heap.size w w3 := bw2.trans (st15.mono bw2.size)
      have x16 : w3.cell? ⟨w.heap.size, 0, none⟩ = some (.string (x0).name) := cellB st15 x9
      have x17 : w3.cell? ⟨w.heap.size, 1, none⟩ = some (l0) := cellB st15 x10
      have l18 : w.heap.size < w3.heap.size := by omega
      have x19 : w3.cell? ⟨w.heap.size + 1, 0, none⟩ = some (.string (x1).name) := cellB st15 x12
      have x20 : w3.cell? ⟨w.heap.size + 1, 1, none⟩ = some (l1) := cellB st15 x13
      have l21 : w.heap.size + 1 < w3.heap.size := by omega
      clear x9 x10 l11 x12 x13 l14 hs3
      simp only [List.getElem?_toArray, List.getElem?_cons_zero, List.getElem?_cons_succ]
      go_wp2_with fail
      refine (toTunK _ (x0) _ (r0.mono (by have hbw := bw3; (repeat (first | with_reducible exact Below.refl _ _ | with_reducible exact hbw | (with_reducible refine Below.setCell ?_ ?_ _; rotate_left; · first | exact Nat.le_refl _ | omega | (simp; done) | (simp; omega)) | (with_reducible refine Below.alloc ?_ ?_ _; rotate_left; · first | exact Nat.le_refl _ | omega | (simp; done) | (simp; omega)) | with_reducible refine below_drewN ?_ _ | with_reducible refine Below.drew ?_)))) q0).mono ?_
      rintro e w4 ⟨v22, rfl, ho23, h4⟩
      obtain ⟨a24, c25, rfl⟩ := ho23.form
      have f26 : OwnTun w3.heap.size w4.heap.size w4 (.agg #[.string (x0).name, .slice a24 (x0).tones.length c25]) (x0) := ho23
      clear ho23
      have sz4 : w3.heap.size ≤ w4.heap.size := h4.size
      have bw4 : Below w.heap.size w w4 := bw3.trans (h4.mono bw3.size)
      have x28 : w4.cell? ⟨w.heap.size, 0, none⟩ = some (.string (x0).name) := cellB h4 x16
      have x29 : w4.cell? ⟨w.heap.size, 1, none⟩ = some (l0) := cellB h4 x17
      have l30 : w.heap.size < w4.heap.size := by omega
      have x31 : w4.cell? ⟨w.heap.size + 1, 0, none⟩ = some (.string (x1).name) := cellB h4 x19
      have x32 : w4.cell? ⟨w.heap.size + 1, 1, none⟩ = some (l1) := cellB h4 x20
      have l33 : w.heap.size + 1 < w4.heap.size := by omega
      clear x16 x17 l18 x19 x20 l21
      have rg34 : Below w2.heap.size w2 w4 := st15.trans (h4.mono st15.size)
      have fl35 := hf3.call h4
      go_wp2_with fail
      refine ⟨grown_of_below rg34, ?_⟩
      (repeat (with_reducible refine wpOrdF_soft (fun K hK => ?_); simp only [List.getElem?_toArray, List.getElem?_cons_zero, List.getElem?_cons_succ]; first | (go_simp; refine hK _ ?_) | (simp only [undef]; go_simp; refine hK _ ?_); clear hK K))
      refine wpOrdF_hard (d := 8) (obj := (.cells #[.string ⟨#[]⟩, .slice none 0 0] 29)) (fun K a w h => wpOp_only (by simp only [List.getElem?_toArray, List.getElem?_cons_zero, List.getElem?_cons_succ]; go_wp2_with fail; exact h)) (by simp) (grown_of_below rg34) fl35 ?_
      intro pd5 u5 w5 hs5 _ hf5
      have sz5 : w4.heap.size ≤ w5.heap.size := hs5.size
      have bw5 : Below w.heap.size w w5 := bw4.trans (hs5.mono bw4.size)
      have f37 := f26.mono hs5
      have x38 : w5.cell? ⟨w.heap.size, 0, none⟩ = some (.string (x0).name) := cellB hs5 x28
      have x39 : w5.cell? ⟨w.heap.size, 1, none⟩ = some (l0) := cellB hs5 x29
      have l40 : w.heap.size < w5.heap.size := by omega
      have x41 : w5.cell? ⟨w.heap.size + 1, 0, none⟩ = some (.string (x1).name) := cellB hs5 x31
      have x42 : w5.cell? ⟨w.heap.size + 1, 1, none⟩ = some (l1) := cellB hs5 x32
      have l43 : w.heap.size + 1 < w5.heap.size := by omega
      clear f26 x28 x29 l30 x31 x32 l33
      have rg44 : Below w2.heap.size w2 w5 := rg34.trans (hs5.mono rg34.size)
      simp only [List.getElem?_toArray, List.getElem?_cons_zero, List.getElem?_cons_succ]
      go_wp2_with fail
      refine (toTunK _ (x1) _ (r1.mono (by have hbw := bw5; (repeat (first | with_reducible exact Below.refl _ _ | with_reducible exact hbw | (with_reducible refine Below.setCell ?_ ?_ _; rotate_left; · first | exact Nat.le_refl _ | omega | (simp; done) | (simp; omega)) | (with_reducible refine Below.alloc ?_ ?_ _; rotate_left; · first | exact Nat.le_refl _ | omega | (simp; done) | (simp; omega)) | with_reducible refine below_drewN ?_ _ | with_reducible refine Below.drew ?_)))) q1).mono ?_
      rintro e w6 ⟨v45, rfl, ho46, h6⟩
      obtain ⟨a47, c48, rfl⟩ := ho46.form
      have f49 : OwnTun w5.heap.size w6.heap.size w6 (.agg #[.string (x1).name, .slice a47 (x1).tones.length c48]) (x1) := ho46
      clear ho46
      have sz6 : w5.heap.size ≤ w6.heap.size := h6.size
      have bw6 : Below w.heap.size w w6 := bw5.trans (h6.mono bw5.size)
      have f51 := f37.mono h6
      have x52 : w6.cell? ⟨w.heap.size, 0, none⟩ = some (.string (x0).name) := cellB h6 x38
      have x53 : w6.cell? ⟨w.heap.size, 1, none⟩ = some (l0) := cellB h6 x39
      have l54 : w.heap.size < w6.heap.size := by omega
      have x55 : w6.cell? ⟨w.heap.size + 1, 0, none⟩ = some (.string (x1).name) := cellB h6 x41
      have x56 : w6.cell? ⟨w.heap.size + 1, 1, none⟩ = some (l1) := cellB h6 x42
      have l57 : w.heap.size + 1 < w6.heap.size := by omega
      clear f37 x38 x39 l40 x41 x42 l43
      have rg58 : Below w2.heap.size w2 w6 := rg44.trans (h6.mono rg44.size)
      have fl59 := hf5.call h6
      go_wp2_with fail
      refine ⟨grown_of_below rg58, ?_⟩
      (repeat (with_reducible refine wpOrdF_soft (fun K hK => ?_); simp only [List.getElem?_toArray, List.getElem?_cons_zero, List.getElem?_cons_succ]; first | (go_simp; refine hK _ ?_) | (simp only [undef]; go_simp; refine hK _ ?_); clear hK K))
      refine wpOrdF_hard (d := 8) (obj := (.cells #[.string ⟨#[]⟩, .slice none 0 0] 29)) (fun K a w h => wpOp_only (by simp only [List.getElem?_toArray, List.getElem?_cons_zero, List.getElem?_cons_succ]; go_wp2_with fail; exact h)) (by simp) (grown_of_below rg58) fl59 ?_
      intro pd7 u7 w7 hs7 _ hf7
      have sz7 : w6.heap.size ≤ w7.heap.size := hs7.size
      have bw7 : Below w.heap.size w w7 := bw6.trans (hs7.mono bw6.size)
      have f61 := f51.mono hs7
      have f62 := f49.mono hs7
      have x63 : w7.cell? ⟨w.heap.size, 0, none⟩ = some (.string (x0).name) := cellB hs7 x52
      have x64 : w7.cell? ⟨w.heap.size, 1, none⟩ = some (l0) := cellB hs7 x53
      have l65 : w.heap.size < w7.heap.size := by omega
      have x66 : w7.cell? ⟨w.heap.size + 1, 0, none⟩ = some (.string (x1).name) := cellB hs7 x55
      have x67 : w7.cell? ⟨w.heap.size + 1, 1, none⟩ = some (l1) := cellB hs7 x56
      have l68 : w.heap.size + 1 < w7.heap.size := by omega
      clear f51 f49 x52 x53 l54 x55 x56 l57
      have rg69 : Below w2.heap.size w2 w7 := rg58.trans (hs7.mono rg58.size)
      simp only [List.getElem?_toArray, List.getElem?_cons_zero, List.getElem?_cons_succ]
      go_wp2_with fail
      refine (specAppendTune_any _ (x0) _ (x1) (n2) _ (OwnTun.rd f61) o0 q0 (OwnTun.rd f62) o1 q1 o2).mono ?_
      rintro e w8 ⟨v70, rfl, ho71, h8⟩
      obtain ⟨a72, c73, rfl⟩ := ho71.form
      have f74 : OwnTun w7.heap.size w8.heap.size w8 (.agg #[.string (apV (x0) (x1) (n2)).name, .slice a72 (apV (x0) (x1) (n2)).tones.length c73]) (apV (x0) (x1) (n2)) := ho71
      clear ho71
      have sz8 : w7.heap.size ≤ w8.heap.size := h8.size
      have bw8 : Below w.heap.size w w8 := bw7.trans (h8.mono bw7.size)
      have f76 := f61.mono h8
      have f77 := f62.mono h8
      have x78 : w8.cell? ⟨w.heap.size, 0, none⟩ = some (.string (x0).name) := cellB h8 x63
      have x79 : w8.cell? ⟨w.heap.size, 1, none⟩ = some (l0) := cellB h8 x64
      have l80 : w.heap.size < w8.heap.size := by omega
      have x81 : w8.cell? ⟨w.heap.size + 1, 0, none⟩ = some (.string (x1).name) := cellB h8 x66
      have x82 : w8.cell? ⟨w.heap.size + 1, 1, none⟩ = some (l1) := cellB h8 x67
      have l83 : w.heap.size + 1 < w8.heap.size := by omega
      clear f61 f62 x63 x64 l65 x66 x67 l68
      have rg84 : Below w2.heap.size w2 w8 := rg69.trans (h8.mono rg69.size)
      have fl85 := hf7.call h8
      go_wp2_with fail
      refine ⟨grown_of_below rg84, ?_⟩
      (repeat (with_reducible refine wpOrdF_soft (fun K hK => ?_); simp only [List.getElem?_toArray, List.getElem?_cons_zero, List.getElem?_cons_succ]; first | (go_simp; refine hK _ ?_) | (simp only [undef]; go_simp; refine hK _ ?_); clear hK K))
      refine wpOrdF_settle (d := 8) (obj := (.cells #[.string ⟨#[]⟩, .slice none 0 0] 29)) (fun K a w h => wpOp_only (by simp only [List.getElem?_toArray, List.getElem?_cons_zero, List.getElem?_cons_succ]; go_wp2_with fail; exact h)) (by simp) (grown_of_below rg84) fl85 ?_
      intro b9 w9 hs9 _ hlo9 hhi9 hob9 hL9
      have sz9 : w8.heap.size ≤ w9.heap.size := hs9.size
      have bw9 : Below w.heap.size w w9 := bw8.trans (hs9.mono bw8.size)
      have f87 := f76.mono hs9
      have f88 := f77.mono hs9
      have f89 := f74.mono hs9
      have x90 : w9.cell? ⟨w.heap.size, 0, none⟩ = some (.string (x0).name) := cellB hs9 x78
      have x91 : w9.cell? ⟨w.heap.size, 1, none⟩ = some (l0) := cellB hs9 x79
      have l92 : w.heap.size < w9.heap.size := by omega
      have x93 : w9.cell? ⟨w.heap.size + 1, 0, none⟩ = some (.string (x1).name) := cellB hs9 x81
      have x94 : w9.cell? ⟨w.heap.size + 1, 1, none⟩ = some (l1) := cellB hs9 x82
      have l95 : w.heap.size + 1 < w9.heap.size := by omega
      clear f76 f77 f74 x78 x79 l80 x81 x82 l83
      have rg96 : Below w2.heap.size w2 w9 := rg84.trans (hs9.mono rg84.size)
      simp only [List.mem_cons, List.not_mem_nil, or_false, forall_eq_or_imp, forall_eq] at hL9
      have hbl9 : w.heap.size ≤ b9 := by omega
      have c97 := cell_fresh (o := 0) hob9 rfl
      have z99 := frozen_fresh (o := 0) hob9
      have c98 := cell_fresh (o := 1) hob9 rfl
      have z100 := frozen_fresh (o := 1) hob9
      (repeat (with_reducible refine wpOrdF_soft (fun K hK => ?_); simp only [List.getElem?_toArray, List.getElem?_cons_zero, List.getElem?_cons_succ]; first | (go_simp; refine hK _ ?_) | (simp only [undef]; go_simp; refine hK _ ?_); clear hK K))
      refine wpOrdF_last ?_
      simp only [List.getElem?_toArray, List.getElem?_cons_zero, List.getElem?_cons_succ]
      go_wp2_with fail
      refine ⟨(grown_setNew (grown_setNew (grown_of_below rg96) hlo9 _) hlo9 _), ?_⟩
      (repeat (with_reducible refine wpOrdF_soft (fun K hK => ?_); simp only [List.getElem?_toArray, List.getElem?_cons_zero, List.getElem?_cons_succ]; first | (go_simp; refine hK _ ?_) | (simp only [undef]; go_simp; refine hK _ ?_); clear hK K))
      (with_reducible refine wpOrdF_nil ?_); refine NoPanic.normal ?_
      obtain ⟨w10, hw10⟩ : ∃ wX : World, wX = ((w9.setCell ⟨b9, 0, none⟩ (.string (apV (x0) (x1) (n2)).name)).setCell ⟨b9, 1, none⟩ (.slice a72 (apV (x0) (x1) (n2)).tones.length c73)) := ⟨_, rfl⟩
      rw [← hw10]
      have ht10 : Touch b9 (b9 + 1) w9 w10 := by rw [hw10]; exact (Touch.setCell (Touch.setCell (Touch.refl b9 (b9 + 1) _) (by simp) _) (by simp) _)
      have x101 : w10.cell? ⟨b9, 0, none⟩ = some (.string (apV (x0) (x1) (n2)).name) := by rw [hw10]; simp [go_sem, c97, c98, z99, z100, hhi9]
      have x102 : w10.cell? ⟨b9, 1, none⟩ = some (.slice a72 (apV (x0) (x1) (n2)).tones.length c73) := by rw [hw10]; simp [go_sem, c97, c98, z99, z100, hhi9]
      clear hw10 hob9 c97 c98 z99 z100
      have sz10 : w9.heap.size ≤ w10.heap.size := ht10.size
      have bw10 : Below w.heap.size w w10 := ht10.below bw9 (by omega) (by omega)
      have f104 := f87.touch ht10 (by omega)
      have f105 := f88.touch ht10 (by omega)
      have f106 := f89.touch ht10 (by omega)
      have x107 : w10.cell? ⟨w.heap.size, 0, none⟩ = some (.string (x0).name) := cellT ht10 x90 (by simp only; omega)
      have x108 : w10.cell? ⟨w.heap.size, 1, none⟩ = some (l0) := cellT ht10 x91 (by simp only; omega)
      have l109 : w.heap.size < w10.heap.size := by omega
      have x110 : w10.cell? ⟨w.heap.size + 1, 0, none⟩ = some (.string (x1).name) := cellT ht10 x93 (by simp only; omega)
      have x111 : w10.cell? ⟨w.heap.size + 1, 1, none⟩ = some (l1) := cellT ht10 x94 (by simp only; omega)
      have l112 : w.heap.size + 1 < w10.heap.size := by omega
      clear f87 f88 f89 x90 x91 l92 x93 x94 l95
      have l113 : b9 < w10.heap.size := by omega
      go_wp2_with fail
      refine (toTunK _ (x0) _ (r0.mono (by have hbw := bw10; (repeat (first | with_reducible exact Below.refl _ _ | with_reducible exact hbw | (with_reducible refine Below.setCell ?_ ?_ _; rotate_left; · first | exact Nat.le_refl _ | omega | (simp; done) | (simp; omega)) | (with_reducible refine Below.alloc ?_ ?_ _; rotate_left; · first | exact Nat.le_refl _ | omega | (simp; done) | (simp; omega)) | with_reducible refine below_drewN ?_ _ | with_reducible refine Below.drew ?_)))) q0).mono ?_
      rintro e w11 ⟨v114, rfl, ho115, h11⟩
      obtain ⟨a116, c117, rfl⟩ := ho115.form
      have f118 : OwnTun w10.heap.size w11.heap.size w11 (.agg #[.string (x0).name, .slice a116 (x0).tones.length c117]) (x0) := ho115
      clear ho115
      have sz11 : w10.heap.size ≤ w11.heap.size := h11.size
      have bw11 : Below w.heap.size w w11 := bw10.trans (h11.mono bw10.size)
      have f120 := f104.mono h11
      have f121 := f105.mono h11
      have f122 := f106.mono h11
      have x123 : w11.cell? ⟨w.heap.size, 0, none⟩ = some (.string (x0).name) := cellB h11 x107
      have x124 : w11.cell? ⟨w.heap.size, 1, none⟩ = some (l0) := cellB h11 x108
      have l125 : w.heap.size < w11.heap.size := by omega
      have x126 : w11.cell? ⟨w.heap.size + 1, 0, none⟩ = some (.string (x1).name) := cellB h11 x110
      have x127 : w11.cell? ⟨w.heap.size + 1, 1, none⟩ = some (l1) := cellB h11 x111
      have l128 : w.heap.size + 1 < w11.heap.size := by omega
      have x129 : w11.cell? ⟨b9, 0, none⟩ = some (.string (apV (x0) (x1) (n2)).name) := cellB h11 x101
      have x130 : w11.cell? ⟨b9, 1, none⟩ = some (.slice a72 (apV (x0) (x1) (n2)).tones.length c73) := cellB h11 x102
      have l131 : b9 < w11.heap.size := by omega
      clear f104 f105 f106 x107 x108 l109 x110 x111 l112 x101 x102 l113
      go_wp2_with fail
      refine (toTunK _ (x1) _ (r1.mono (by have hbw := bw11; (repeat (first | with_reducible exact Below.refl _ _ | with_reducible exact hbw | (with_reducible refine Below.setCell ?_ ?_ _; rotate_left; · first | exact Nat.le_refl _ | omega | (simp; done) | (simp; omega)) | (with_reducible refine Below.alloc ?_ ?_ _; rotate_left; · first | exact Nat.le_refl _ | omega | (simp; done) | (simp; omega)) | with_reducible refine below_drewN ?_ _ | with_reducible refine Below.drew ?_)))) q1).mono ?_
      rintro e w12 ⟨v132, rfl, ho133, h12⟩
      obtain ⟨a134, c135, rfl⟩ := ho133.form
      have f136 : OwnTun (w11.heap.size + 1) w12.heap.size w12 (.agg #[.string (x1).name, .slice a134 (x1).tones.length c135]) (x1) := ho133.wide (by simp) (Nat.le_refl _)
      clear ho133
      have st137 : Below w11.heap.size w11 w12 := Below.trans (by (repeat (first | with_reducible exact Below.refl _ _ | with_reducible exact hbw | (with_reducible refine Below.setCell ?_ ?_ _; rotate_left; · first | exact Nat.le_refl _ | omega | (simp; done) | (simp; omega)) | (with_reducible refine Below.alloc ?_ ?_ _; rotate_left; · first | exact Nat.le_refl _ | omega | (simp; done) | (simp; omega)) | with_reducible refine below_drewN ?_ _ | with_reducible refine Below.drew ?_))) (h12.mono (by first | exact Nat.le_refl _ | omega | (simp; done) | (simp; omega)))
      have sz12 : w11.heap.size + 1 ≤ w12.heap.size := by have := h12.size; simp at this ⊢; omega
      have bw12 : Below w.heap.size w w12 := bw11.trans (st137.mono bw11.size)
      have f138 := f120.mono st137
      have f139 := f121.mono st137
      have f140 := f122.mono st137
      have f141 := f118.mono st137
      have x142 : w12.cell? ⟨w.heap.size, 0, none⟩ = some (.string (x0).name) := cellB st137 x123
      have x143 : w12.cell? ⟨w.heap.size, 1, none⟩ = some (l0) := cellB st137 x124
      have l144 : w.heap.size < w12.heap.size := by omega
      have x145 : w12.cell? ⟨w.heap.size + 1, 0, none⟩ = some (.string (x1).name) := cellB st137 x126
      have x146 : w12.cell? ⟨w.heap.size + 1, 1, none⟩ = some (l1) := cellB st137 x127
      have l147 : w.heap.size + 1 < w12.heap.size := by omega
      have x148 : w12.cell? ⟨b9, 0, none⟩ = some (.string (apV (x0) (x1) (n2)).name) := cellB st137 x129
      have x149 : w12.cell? ⟨b9, 1, none⟩ = some (.slice a72 (apV (x0) (x1) (n2)).tones.length c73) := cellB st137 x130
      have l150 : b9 < w12.heap.size := by omega
      have x151 : w12.cell? ⟨w11.heap.size, 0, none⟩ = some (.string (x0).name) := cellB h12 (by simp [go_sem])
      have x152 : w12.cell? ⟨w11.heap.size, 1, none⟩ = some (.slice a116 (x0).tones.length c117) := cellB h12 (by simp [go_sem])
      have l153 : w11.heap.size < w12.heap.size := by omega
      clear f120 f121 f122 f118 x123 x124 l125 x126 x127 l128 x129 x130 l131 h12
      go_wp2_with fail
      refine (implAppendTune_any _ (x0) _ (x1) (n2) _ ((OwnTun.rd f141).mono (by (repeat (first | with_reducible exact Below.refl _ _ | with_reducible exact hbw | (with_reducible refine Below.setCell ?_ ?_ _; rotate_left; · first | exact Nat.le_refl _ | omega | (simp; done) | (simp; omega)) | (with_reducible refine Below.alloc ?_ ?_ _; rotate_left; · first | exact Nat.le_refl _ | omega | (simp; done) | (simp; omega)) | with_reducible refine below_drewN ?_ _ | with_reducible refine Below.drew ?_)))) o0 q0 ((OwnTun.rd f136).mono (by (repeat (first | with_reducible exact Below.refl _ _ | with_reducible exact hbw | (with_reducible refine Below.setCell ?_ ?_ _; rotate_left; · first | exact Nat.le_refl _ | omega | (simp; done) | (simp; omega)) | (with_reducible refine Below.alloc ?_ ?_ _; rotate_left; · first | exact Nat.le_refl _ | omega | (simp; done) | (simp; omega)) | with_reducible refine below_drewN ?_ _ | with_reducible refine Below.drew ?_)))) o1 q1 o2).mono ?_
      rintro e w13 ⟨v154, rfl, ho155, h13⟩
      obtain ⟨a156, c157, rfl⟩ := ho155.form
      have f158 : OwnTun (w12.heap.size + 1) w13.heap.size w13 (.agg #[.string (apV (x0) (x1) (n2)).name, .slice a156 (apV (x0) (x1) (n2)).tones.length c157]) (apV (x0) (x1) (n2)) := ho155.wide (by simp) (Nat.le_refl _)
      clear ho155
      have st159 : Below w12.heap.size w12 w13 := Below.trans (by (repeat (first | with_reducible exact Below.refl _ _ | with_reducible exact hbw | (with_reducible refine Below.setCell ?_ ?_ _; rotate_left; · first | exact Nat.le_refl _ | omega | (simp; done) | (simp; omega)) | (with_reducible refine Below.alloc ?_ ?_ _; rotate_left; · first | exact Nat.le_refl _ | omega | (simp; done) | (simp; omega)) | with_reducible refine below_drewN ?_ _ | with_reducible refine Below.drew ?_))) (h13.mono (by first | exact Nat.le_refl _ | omega | (simp; done) | (simp; omega)))
      have sz13 : w12.heap.size + 1 ≤ w13.heap.size := by have := h13.size; simp at this ⊢; omega
      have bw13 : Below w.heap.size w w13 := bw12.trans (st159.mono bw12.size)
      have f160 := f138.mono st159
      have f161 := f139.mono st159
      have f162 := f140.mono st159
      have f163 := f141.mono st159
      have f164 := f136.mono st159
      have x165 : w13.cell? ⟨w.heap.size, 0, none⟩ = some (.string (x0).name) := cellB st159 x142
      have x166 : w13.cell? ⟨w.heap.size, 1, none⟩ = some (l0) := cellB st159 x143
      have l167 : w.heap.size < w13.heap.size := by omega
      have x168 : w13.cell? ⟨w.heap.size + 1, 0, none⟩ = some (.string (x1).name) := cellB st159 x145
      have x169 : w13.cell? ⟨w.heap.size + 1, 1, none⟩ = some (l1) := cellB st159 x146
      have l170 : w.heap.size + 1 < w13.heap.size := by omega
      have x171 : w13.cell? ⟨b9, 0, none⟩ = some (.string (apV (x0) (x1) (n2)).name) := cellB st159 x148
      have x172 : w13.cell? ⟨b9, 1, none⟩ = some (.slice a72 (apV (x0) (x1) (n2)).tones.length c73) := cellB st159 x149
      have l173 : b9 < w13.heap.size := by omega
      have x174 : w13.cell? ⟨w11.heap.size, 0, none⟩ = some (.string (x0).name) := cellB st159 x151
      have x175 : w13.cell? ⟨w11.heap.size, 1, none⟩ = some (.slice a116 (x0).tones.length c117) := cellB st159 x152
      have l176 : w11.heap.size < w13.heap.size := by omega
      have x177 : w13.cell? ⟨w12.heap.size, 0, none⟩ = some (.string (x1).name) := cellB h13 (by simp [go_sem])
      have x178 : w13.cell? ⟨w12.heap.size, 1, none⟩ = some (.slice a134 (x1).tones.length c135) := cellB h13 (by simp [go_sem])
      have l179 : w12.heap.size < w13.heap.size := by omega
      clear f138 f139 f140 f141 f136 x142 x143 l144 x145 x146 l147 x148 x149 l150 x151 x152 l153 h13
      go_wp2_with fail
      refine (eqTunK _ _ (apV (x0) (x1) (n2)) _ ((OwnTun.rd f158).mono (by (repeat (first | with_reducible exact Below.refl _ _ | with_reducible exact hbw | (with_reducible refine Below.setCell ?_ ?_ _; rotate_left; · first | exact Nat.le_refl _ | omega | (simp; done) | (simp; omega)) | (with_reducible refine Below.alloc ?_ ?_ _; rotate_left; · first | exact Nat.le_refl _ | omega | (simp; done) | (simp; omega)) | with_reducible refine below_drewN ?_ _ | with_reducible refine Below.drew ?_)))) ((OwnTun.rd f162).mono (by (repeat (first | with_reducible exact Below.refl _ _ | with_reducible exact hbw | (with_reducible refine Below.setCell ?_ ?_ _; rotate_left; · first | exact Nat.le_refl _ | omega | (simp; done) | (simp; omega)) | (with_reducible refine Below.alloc ?_ ?_ _; rotate_left; · first | exact Nat.le_refl _ | omega | (simp; done) | (simp; omega)) | with_reducible refine below_drewN ?_ _ | with_reducible refine Below.drew ?_))))).mono ?_
      rintro e w14 ⟨rfl, h14⟩
      have st180 : Below w13.heap.size w13 w14 := Below.trans (by (repeat (first | with_reducible exact Below.refl _ _ | with_reducible exact hbw | (with_reducible refine Below.setCell ?_ ?_ _; rotate_left; · first | exact Nat.le_refl _ | omega | (simp; done) | (simp; omega)) | (with_reducible refine Below.alloc ?_ ?_ _; rotate_left; · first | exact Nat.le_refl _ | omega | (simp; done) | (simp; omega)) | with_reducible refine below_drewN ?_ _ | with_reducible refine Below.drew ?_))) (h14.mono (by first | exact Nat.le_refl _ | omega | (simp; done) | (simp; omega)))
      have sz14 : w13.heap.size + 1 ≤ w14.heap.size := by have := h14.size; simp at this ⊢; omega
      have bw14 : Below w.heap.size w w14 := bw13.trans (st180.mono bw13.size)
      have f181 := f160.mono st180
      have f182 := f161.mono st180
      have f183 := f162.mono st180
      have f184 := f163.mono st180
      have f185 := f164.mono st180
      have f186 := f158.mono st180
      have x187 : w14.cell? ⟨w.heap.size, 0, none⟩ = some (.string (x0).name) := cellB st180 x165
      have x188 : w14.cell? ⟨w.heap.size, 1, none⟩ = some (l0) := cellB st180 x166
      have l189 : w.heap.size < w14.heap.size := by omega
      have x190 : w14.cell? ⟨w.heap.size + 1, 0, none⟩ = some (.string (x1).name) := cellB st180 x168
      have x191 : w14.cell? ⟨w.heap.size + 1, 1, none⟩ = some (l1) := cellB st180 x169
      have l192 : w.heap.size + 1 < w14.heap.size := by omega
      have x193 : w14.cell? ⟨b9, 0, none⟩ = some (.string (apV (x0) (x1) (n2)).name) := cellB st180 x171
      have x194 : w14.cell? ⟨b9, 1, none⟩ = some (.slice a72 (apV (x0) (x1) (n2)).tones.length c73) := cellB st180 x172
      have l195 : b9 < w14.heap.size := by omega
      have x196 : w14.cell? ⟨w11.heap.size, 0, none⟩ = some (.string (x0).name) := cellB st180 x174
      have x197 : w14.cell? ⟨w11.heap.size, 1, none⟩ = some (.slice a116 (x0).tones.length c117) := cellB st180 x175
      have l198 : w11.heap.size < w14.heap.size := by omega
      have x199 : w14.cell? ⟨w12.heap.size, 0, none⟩ = some (.string (x1).name) := cellB st180 x177
      have x200 : w14.cell? ⟨w12.heap.size, 1, none⟩ = some (.slice a134 (x1).tones.length c135) := cellB st180 x178
      have l201 : w12.heap.size < w14.heap.size := by omega
      have x202 : w14.cell? ⟨w13.heap.size, 0, none⟩ = some (.string (apV (x0) (x1) (n2)).name) := cellB h14 (by simp [go_sem])
      have x203 : w14.cell? ⟨w13.heap.size, 1, none⟩ = some (.slice a156 (apV (x0) (x1) (n2)).tones.length c157) := cellB h14 (by simp [go_sem])
      have l204 : w13.heap.size < w14.heap.size := by omega
      clear f160 f161 f162 f163 f164 f158 x165 x166 l167 x168 x169 l170 x171 x172 l173 x174 x175 l176 x177 x178 l179 h14
      go_wp2_with fail
      refine wp_region_ord [(0, true), (1, true), (2, false), (3, false), (4, true)] (none) (by kernel_rfl) (by kernel_rfl) ?_
      (repeat (with_reducible refine wpOrd_soft (fun K hK => ?_); simp only [List.getElem?_toArray, List.getElem?_cons_zero, List.getElem?_cons_succ]; first | (go_simp; refine hK _ ?_) | (simp only [undef]; go_simp; refine hK _ ?_); clear hK K))
      (with_reducible refine wpOrd_hard ?_; simp only [List.getElem?_toArray, List.getElem?_cons_zero, List.getElem?_cons_succ])
      go_wp2_with fail
      refine (toTunK _ (x0) _ (r0.mono (by have hbw := bw14; (repeat (first | with_reducible exact Below.refl _ _ | with_reducible exact hbw | (with_reducible refine Below.setCell ?_ ?_ _; rotate_left; · first | exact Nat.le_refl _ | omega | (simp; done) | (simp; omega)) | (with_reducible refine Below.alloc ?_ ?_ _; rotate_left; · first | exact Nat.le_refl _ | omega | (simp; done) | (simp; omega)) | with_reducible refine below_drewN ?_ _ | with_reducible refine Below.drew ?_)))) q0).mono ?_
      rintro e w15 ⟨v205, rfl, ho206, h15⟩
      obtain ⟨a207, c208, rfl⟩ := ho206.form
      have f209 : OwnTun w14.heap.size w15.heap.size w15 (.agg #[.string (x0).name, .slice a207 (x0).tones.length c208]) (x0) := ho206
      clear ho206
      have st210 : Below w14.heap.size w14 w15 := undrew h15
      have sz15 : w14.heap.size ≤ w15.heap.size := st210.size
      have bw15 : Below w.heap.size w w15 := bw14.trans (st210.mono bw14.size)
      have f211 := f181.mono st210
      have f212 := f182.mono st210
      have f213 := f183.mono st210
      have f214 := f184.mono st210
      have f215 := f185.mono st210
      have f216 := f186.mono st210
      have x217 : w15.cell? ⟨w.heap.size, 0, none⟩ = some (.string (x0).name) := cellB st210 x187
      have x218 : w15.cell? ⟨w.heap.size, 1, none⟩ = some (l0) := cellB st210 x188
      have l219 : w.heap.size < w15.heap.size := by omega
      have x220 : w15.cell? ⟨w.heap.size + 1, 0, none⟩ = some (.string (x1).name) := cellB st210 x190
      have x221 : w15.cell? ⟨w.heap.size + 1, 1, none⟩ = some (l1) := cellB st210 x191
      have l222 : w.heap.size + 1 < w15.heap.size := by omega
      have x223 : w15.cell? ⟨b9, 0, none⟩ = some (.string (apV (x0) (x1) (n2)).name) := cellB st210 x193
      have x224 : w15.cell? ⟨b9, 1, none⟩ = some (.slice a72 (apV (x0) (x1) (n2)).tones.length c73) := cellB st210 x194
      have l225 : b9 < w15.heap.size := by omega
      have x226 : w15.cell? ⟨w11.heap.size, 0, none⟩ = some (.string (x0).name) := cellB st210 x196
      have x227 : w15.cell? ⟨w11.heap.size, 1, none⟩ = some (.slice a116 (x0).tones.length c117) := cellB st210 x197
      have l228 : w11.heap.size < w15.heap.size := by omega
      have x229 : w15.cell? ⟨w12.heap.size, 0, none⟩ = some (.string (x1).name) := cellB st210 x199
      have x230 : w15.cell? ⟨w12.heap.size, 1, none⟩ = some (.slice a134 (x1).tones.length c135) := cellB st210 x200
      have l231 : w12.heap.size < w15.heap.size := by omega
      have x232 : w15.cell? ⟨w13.heap.size, 0, none⟩ = some (.string (apV (x0) (x1) (n2)).name) := cellB st210 x202
      have x233 : w15.cell? ⟨w13.heap.size, 1, none⟩ = some (.slice a156 (apV (x0) (x1) (n2)).tones.length c157) := cellB st210 x203
      have l234 : w13.heap.size < w15.heap.size := by omega
      clear f181 f182 f183 f184 f185 f186 x187 x188 l189 x190 x191 l192 x193 x194 l195 x196 x197 l198 x199 x200 l201 x202 x203 l204 h15
      go_wp2_with fail
      refine ⟨grown_of_below st210, ?_⟩
      (repeat (with_reducible refine wpOrd_soft (fun K hK => ?_); simp only [List.getElem?_toArray, List.getElem?_cons_zero, List.getElem?_cons_succ]; first | (go_simp; refine hK _ ?_) | (simp only [undef]; go_simp; refine hK _ ?_); clear hK K))
      (with_reducible refine wpOrd_hard ?_; simp only [List.getElem?_toArray, List.getElem?_cons_zero, List.getElem?_cons_succ])
      go_wp2_with fail
      refine (eqTunK _ _ (x0) _ (OwnTun.rd f214) (OwnTun.rd f209)).mono ?_
      rintro e w16 ⟨rfl, h16⟩
      have sz16 : w15.heap.size ≤ w16.heap.size := h16.size
      have bw16 : Below w.heap.size w w16 := bw15.trans (h16.mono bw15.size)
      have f236 := f211.mono h16
      have f237 := f212.mono h16
      have f238 := f213.mono h16
      have f239 := f214.mono h16
      have f240 := f215.mono h16
      have f241 := f216.mono h16
      have f242 := f209.mono h16
      have x243 : w16.cell? ⟨w.heap.size, 0, none⟩ = some (.string (x0).name) := cellB h16 x217
      have x244 : w16.cell? ⟨w.heap.size, 1, none⟩ = some (l0) := cellB h16 x218
      have l245 : w.heap.size < w16.heap.size := by omega
      have x246 : w16.cell? ⟨w.heap.size + 1, 0, none⟩ = some (.string (x1).name) := cellB h16 x220
      have x247 : w16.cell? ⟨w.heap.size + 1, 1, none⟩ = some (l1) := cellB h16 x221
      have l248 : w.heap.size + 1 < w16.heap.size := by omega
      have x249 : w16.cell? ⟨b9, 0, none⟩ = some (.string (apV (x0) (x1) (n2)).name) := cellB h16 x223
      have x250 : w16.cell? ⟨b9, 1, none⟩ = some (.slice a72 (apV (x0) (x1) (n2)).tones.length c73) := cellB h16 x224
      have l251 : b9 < w16.heap.size := by omega
      have x252 : w16.cell? ⟨w11.heap.size, 0, none⟩ = some (.string (x0).name) := cellB h16 x226
      have x253 : w16.cell? ⟨w11.heap.size, 1, none⟩ = some (.slice a116 (x0).tones.length c117) := cellB h16 x227
      have l254 : w11.heap.size < w16.heap.size := by omega
      have x255 : w16.cell? ⟨w12.heap.size, 0, none⟩ = some (.string (x1).name) := cellB h16 x229
      have x256 : w16.cell? ⟨w12.heap.size, 1, none⟩ = some (.slice a134 (x1).tones.length c135) := cellB h16 x230
      have l257 : w12.heap.size < w16.heap.size := by omega
      have x258 : w16.cell? ⟨w13.heap.size, 0, none⟩ = some (.string (apV (x0) (x1) (n2)).name) := cellB h16 x232
      have x259 : w16.cell? ⟨w13.heap.size, 1, none⟩ = some (.slice a156 (apV (x0) (x1) (n2)).tones.length c157) := cellB h16 x233
      have l260 : w13.heap.size < w16.heap.size := by omega
      clear f211 f212 f213 f214 f215 f216 f209 x217 x218 l219 x220 x221 l222 x223 x224 l225 x226 x227 l228 x229 x230 l231 x232 x233 l234
      have rg261 : Below w14.heap.size w14 w16 := st210.trans (h16.mono st210.size)
      go_wp2_with fail
      refine ⟨grown_of_below rg261, ?_⟩
      (repeat (with_reducible refine wpOrd_soft (fun K hK => ?_); simp only [List.getElem?_toArray, List.getElem?_cons_zero, List.getElem?_cons_succ]; first | (go_simp; refine hK _ ?_) | (simp only [undef]; go_simp; refine hK _ ?_); clear hK K))
      (with_reducible refine wpOrd_nil ?_); refine NoPanic.normal ?_
      go_wp2_with fail
      refine wp_region_ord [(0, true), (1, true), (2, false), (3, false), (4, true)] (none) (by kernel_rfl) (by kernel_rfl) ?_
      (repeat (with_reducible refine wpOrd_soft (fun K hK => ?_); simp only [List.getElem?_toArray, List.getElem?_cons_zero, List.getElem?_cons_succ]; first | (go_simp; refine hK _ ?_) | (simp only [undef]; go_simp; refine hK _ ?_); clear hK K))
      (with_reducible refine wpOrd_hard ?_; simp only [List.getElem?_toArray, List.getElem?_cons_zero, List.getElem?_cons_succ])
      go_wp2_with fail
      refine (toTunK _ (x1) _ (r1.mono (by have hbw := bw16; (repeat (first | with_reducible exact Below.refl _ _ | with_reducible exact hbw | (with_reducible refine Below.setCell ?_ ?_ _; rotate_left; · first | exact Nat.le_refl _ | omega | (simp; done) | (simp; omega)) | (with_reducible refine Below.alloc ?_ ?_ _; rotate_left; · first | exact Nat.le_refl _ | omega | (simp; done) | (simp; omega)) | with_reducible refine below_drewN ?_ _ | with_reducible refine Below.drew ?_)))) q1).mono ?_
      rintro e w17 ⟨v262, rfl, ho263, h17⟩
      obtain ⟨a264, c265, rfl⟩ := ho263.form
      have f266 : OwnTun w16.heap.size w17.heap.size w17 (.agg #[.string (x1).name, .slice a264 (x1).tones.length c265]) (x1) := ho263
      clear ho263
      have st267 : Below w16.heap.size w16 w17 := undrew h17
      have sz17 : w16.heap.size ≤ w17.heap.size := st267.size
      have bw17 : Below w.heap.size w w17 := bw16.trans (st267.mono bw16.size)
      have f268 := f236.mono st267
      have f269 := f237.mono st267
      have f270 := f238.mono st267
      have f271 := f239.mono st267
      have f272 := f240.mono st267
      have f273 := f241.mono st267
      have f274 := f242.mono st267
      have x275 : w17.cell? ⟨w.heap.size, 0, none⟩ = some (.string (x0).name) := cellB st267 x243
      have x276 : w17.cell? ⟨w.heap.size, 1, none⟩ = some (l0) := cellB st267 x244
      have l277 : w.heap.size < w17.heap.size := by omega
      have x278 : w17.cell? ⟨w.heap.size + 1, 0, none⟩ = some (.string (x1).name) := cellB st267 x246
      have x279 : w17.cell? ⟨w.heap.size + 1, 1, none⟩ = some (l1) := cellB st267 x247
      have l280 : w.heap.size + 1 < w17.heap.size := by omega
      have x281 : w17.cell? ⟨b9, 0, none⟩ = some (.string (apV (x0) (x1) (n2)).name) := cellB st267 x249
      have x282 : w17.cell? ⟨b9, 1, none⟩ = some (.slice a72 (apV (x0) (x1) (n2)).tones.length c73) := cellB st267 x250
      have l283 : b9 < w17.heap.size := by omega
      have x284 : w17.cell? ⟨w11.heap.size, 0, none⟩ = some (.string (x0).name) := cellB st267 x252
      have x285 : w17.cell? ⟨w11.heap.size, 1, none⟩ = some (.slice a116 (x0).tones.length c117) := cellB st267 x253
      have l286 : w11.heap.size < w17.heap.size := by omega
      have x287 : w17.cell? ⟨w12.heap.size, 0, none⟩ = some (.string (x1).name) := cellB st267 x255
      have x288 : w17.cell? ⟨w12.heap.size, 1, none⟩ = some (.slice a134 (x1).tones.length c135) := cellB st267 x256
      have l289 : w12.heap.size < w17.heap.size := by omega
      have x290 : w17.cell? ⟨w13.heap.size, 0, none⟩ = some (.string (apV (x0) (x1) (n2)).name) := cellB st267 x258
      have x291 : w17.cell? ⟨w13.heap.size, 1, none⟩ = some (.slice a156 (apV (x0) (x1) (n2)).tones.length c157) := cellB st267 x259
      have l292 : w13.heap.size < w17.heap.size := by omega
      clear f236 f237 f238 f239 f240 f241 f242 x243 x244 l245 x246 x247 l248 x249 x250 l251 x252 x253 l254 x255 x256 l257 x258 x259 l260 h17
      go_wp2_with fail
      refine ⟨grown_of_below st267, ?_⟩
      (repeat (with_reducible refine wpOrd_soft (fun K hK => ?_); simp only [List.getElem?_toArray, List.getElem?_cons_zero, List.getElem?_cons_succ]; first | (go_simp; refine hK _ ?_) | (simp only [undef]; go_simp; refine hK _ ?_); clear hK K))
      (with_reducible refine wpOrd_hard ?_; simp only [List.getElem?_toArray, List.getElem?_cons_zero, List.getElem?_cons_succ])
      go_wp2_with fail
      refine (eqTunK _ _ (x1) _ (OwnTun.rd f272) (OwnTun.rd f266)).mono ?_
      rintro e w18 ⟨rfl, h18⟩
      have sz18 : w17.heap.size ≤ w18.heap.size := h18.size
      have bw18 : Below w.heap.size w w18 := bw17.trans (h18.mono bw17.size)
      have f294 := f268.mono h18
      have f295 := f269.mono h18
      have f296 := f270.mono h18
      have f297 := f271.mono h18
      have f298 := f272.mono h18
      have f299 := f273.mono h18
      have f300 := f274.mono h18
      have f301 := f266.mono h18
      have x302 : w18.cell? ⟨w.heap.size, 0, none⟩ = some (.string (x0).name) := cellB h18 x275
      have x303 : w18.cell? ⟨w.heap.size, 1, none⟩ = some (l0) := cellB h18 x276
      have l304 : w.heap.size < w18.heap.size := by omega
      have x305 : w18.cell? ⟨w.heap.size + 1, 0, none⟩ = some (.string (x1).name) := cellB h18 x278
      have x306 : w18.cell? ⟨w.heap.size + 1, 1, none⟩ = some (l1) := cellB h18 x279
      have l307 : w.heap.size + 1 < w18.heap.size := by omega
      have x308 : w18.cell? ⟨b9, 0, none⟩ = some (.string (apV (x0) (x1) (n2)).name) := cellB h18 x281
      have x309 : w18.cell? ⟨b9, 1, none⟩ = some (.slice a72 (apV (x0) (x1) (n2)).tones.length c73) := cellB h18 x282
      have l310 : b9 < w18.heap.size := by omega
      have x311 : w18.cell? ⟨w11.heap.size, 0, none⟩ = some (.string (x0).name) := cellB h18 x284
      have x312 : w18.cell? ⟨w11.heap.size, 1, none⟩ = some (.slice a116 (x0).tones.length c117) := cellB h18 x285
      have l313 : w11.heap.size < w18.heap.size := by omega
      have x314 : w18.cell? ⟨w12.heap.size, 0, none⟩ = some (.string (x1).name) := cellB h18 x287
      have x315 : w18.cell? ⟨w12.heap.size, 1, none⟩ = some (.slice a134 (x1).tones.length c135) := cellB h18 x288
      have l316 : w12.heap.size < w18.heap.size := by omega
      have x317 : w18.cell? ⟨w13.heap.size, 0, none⟩ = some (.string (apV (x0) (x1) (n2)).name) := cellB h18 x290
      have x318 : w18.cell? ⟨w13.heap.size, 1, none⟩ = some (.slice a156 (apV (x0) (x1) (n2)).tones.length c157) := cellB h18 x291
      have l319 : w13.heap.size < w18.heap.size := by omega
      clear f268 f269 f270 f271 f272 f273 f274 f266 x275 x276 l277 x278 x279 l280 x281 x282 l283 x284 x285 l286 x287 x288 l289 x290 x291 l292
      have rg320 : Below w16.heap.size w16 w18 := st267.trans (h18.mono st267.size)
      go_wp2_with fail
      refine ⟨grown_of_below rg320, ?_⟩
      (repeat (with_reducible refine wpOrd_soft (fun K hK => ?_); simp only [List.getElem?_toArray, List.getElem?_cons_zero, List.getElem?_cons_succ]; first | (go_simp; refine hK _ ?_) | (simp only [undef]; go_simp; refine hK _ ?_); clear hK K))
      (with_reducible refine wpOrd_nil ?_); refine NoPanic.normal ?_
      go_wp2_with fail
      refine (markTunK _ _ _ (x0) (1) _ f297 (by omega) (by have := q0; omega)).mono ?_
      rintro e w19 ⟨rfl, f321, t19⟩
      have sz19 : w18.heap.size ≤ w19.heap.size := t19.size
      have bw19 : Below w.heap.size w w19 := t19.below bw18 (by omega) (by omega)
      have f323 := f294.touch t19 (by omega)
      have f324 := f295.touch t19 (by omega)
      have f325 := f296.touch t19 (by omega)
      have f327 := f298.touch t19 (by omega)
      have f328 := f299.touch t19 (by omega)
      have f329 := f300.touch t19 (by omega)
      have f330 := f301.touch t19 (by omega)
      have x331 : w19.cell? ⟨w.heap.size, 0, none⟩ = some (.string (x0).name) := cellT t19 x302 (by simp only; omega)
      have x332 : w19.cell? ⟨w.heap.size, 1, none⟩ = some (l0) := cellT t19 x303 (by simp only; omega)
      have l333 : w.heap.size < w19.heap.size := by omega
      have x334 : w19.cell? ⟨w.heap.size + 1, 0, none⟩ = some (.string (x1).name) := cellT t19 x305 (by simp only; omega)
      have x335 : w19.cell? ⟨w.heap.size + 1, 1, none⟩ = some (l1) := cellT t19 x306 (by simp only; omega)
      have l336 : w.heap.size + 1 < w19.heap.size := by omega
      have x337 : w19.cell? ⟨b9, 0, none⟩ = some (.string (apV (x0) (x1) (n2)).name) := cellT t19 x308 (by simp only; omega)
      have x338 : w19.cell? ⟨b9, 1, none⟩ = some (.slice a72 (apV (x0) (x1) (n2)).tones.length c73) := cellT t19 x309 (by simp only; omega)
      have l339 : b9 < w19.heap.size := by omega
      have x340 : w19.cell? ⟨w11.heap.size, 0, none⟩ = some (.string (x0).name) := cellT t19 x311 (by simp only; omega)
      have x341 : w19.cell? ⟨w11.heap.size, 1, none⟩ = some (.slice a116 (x0).tones.length c117) := cellT t19 x312 (by simp only; omega)
      have l342 : w11.heap.size < w19.heap.size := by omega
      have x343 : w19.cell? ⟨w12.heap.size, 0, none⟩ = some (.string (x1).name) := cellT t19 x314 (by simp only; omega)
      have x344 : w19.cell? ⟨w12.heap.size, 1, none⟩ = some (.slice a134 (x1).tones.length c135) := cellT t19 x315 (by simp only; omega)
      have l345 : w12.heap.size < w19.heap.size := by omega
      have x346 : w19.cell? ⟨w13.heap.size, 0, none⟩ = some (.string (apV (x0) (x1) (n2)).name) := cellT t19 x317 (by simp only; omega)
      have x347 : w19.cell? ⟨w13.heap.size, 1, none⟩ = some (.slice a156 (apV (x0) (x1) (n2)).tones.length c157) := cellT t19 x318 (by simp only; omega)
      have l348 : w13.heap.size < w19.heap.size := by omega
      clear f294 f295 f296 f298 f299 f300 f301 x302 x303 l304 x305 x306 l307 x308 x309 l310 x311 x312 l313 x314 x315 l316 x317 x318 l319
      clear f297
      go_wp2_with fail
      refine (markTunK _ _ _ (x1) (1 + (((x0).tones.length : Int) * 3 : Int)) _ f327 (by omega) (by have := q1; omega)).mono ?_
      rintro e w20 ⟨rfl, f349, t20⟩
      have sz20 : w19.heap.size ≤ w20.heap.size := t20.size
      have bw20 : Below w.heap.size w w20 := t20.below bw19 (by omega) (by omega)
      have f351 := f323.touch t20 (by omega)
      have f352 := f324.touch t20 (by omega)
      have f353 := f325.touch t20 (by omega)
      have f354 := f321.touch t20 (by omega)
      have f356 := f328.touch t20 (by omega)
      have f357 := f329.touch t20 (by omega)
      have f358 := f330.touch t20 (by omega)
      have x359 : w20.cell? ⟨w.heap.size, 0, none⟩ = some (.string (x0).name) := cellT t20 x331 (by simp only; omega)
      have x360 : w20.cell? ⟨w.heap.size, 1, none⟩ = some (l0) := cellT t20 x332 (by simp only; omega)
      have l361 : w.heap.size < w20.heap.size := by omega
      have x362 : w20.cell? ⟨w.heap.size + 1, 0, none⟩ = some (.string (x1).name) := cellT t20 x334 (by simp only; omega)
      have x363 : w20.cell? ⟨w.heap.size + 1, 1, none⟩ = some (l1) := cellT t20 x335 (by simp only; omega)
      have l364 : w.heap.size + 1 < w20.heap.size := by omega
      have x365 : w20.cell? ⟨b9, 0, none⟩ = some (.string (apV (x0) (x1) (n2)).name) := cellT t20 x337 (by simp only; omega)
      have x366 : w20.cell? ⟨b9, 1, none⟩ = some (.slice a72 (apV (x0) (x1) (n2)).tones.length c73) := cellT t20 x338 (by simp only; omega)
      have l367 : b9 < w20.heap.size := by omega
      have x368 : w20.cell? ⟨w11.heap.size, 0, none⟩ = some (.string (x0).name) := cellT t20 x340 (by simp only; omega)
      have x369 : w20.cell? ⟨w11.heap.size, 1, none⟩ = some (.slice a116 (x0).tones.length c117) := cellT t20 x341 (by simp only; omega)
      have l370 : w11.heap.size < w20.heap.size := by omega
      have x371 : w20.cell? ⟨w12.heap.size, 0, none⟩ = some (.string (x1).name) := cellT t20 x343 (by simp only; omega)
      have x372 : w20.cell? ⟨w12.heap.size, 1, none⟩ = some (.slice a134 (x1).tones.length c135) := cellT t20 x344 (by simp only; omega)
      have l373 : w12.heap.size < w20.heap.size := by omega
      have x374 : w20.cell? ⟨w13.heap.size, 0, none⟩ = some (.string (apV (x0) (x1) (n2)).name) := cellT t20 x346 (by simp only; omega)
      have x375 : w20.cell? ⟨w13.heap.size, 1, none⟩ = some (.slice a156 (apV (x0) (x1) (n2)).tones.length c157) := cellT t20 x347 (by simp only; omega)
      have l376 : w13.heap.size < w20.heap.size := by omega
      clear f323 f324 f325 f321 f328 f329 f330 x331 x332 l333 x334 x335 l336 x337 x338 l339 x340 x341 l342 x343 x344 l345 x346 x347 l348
      clear f327
      go_wp2_with fail
      refine (eqTunK _ _ (apV (x0) (x1) (n2)) _ (OwnTun.rd f356) (OwnTun.rd f353)).mono ?_
      rintro e w21 ⟨rfl, h21⟩
      have sz21 : w20.heap.size ≤ w21.heap.size := h21.size
      have bw21 : Below w.heap.size w w21 := bw20.trans (h21.mono bw20.size)
      have f378 := f351.mono h21
      have f379 := f352.mono h21
      have f380 := f353.mono h21
      have f381 := f354.mono h21
      have f382 := f349.mono h21
      have f383 := f356.mono h21
      have f384 := f357.mono h21
      have f385 := f358.mono h21
      have x386 : w21.cell? ⟨w.heap.size, 0, none⟩ = some (.string (x0).name) := cellB h21 x359
      have x387 : w21.cell? ⟨w.heap.size, 1, none⟩ = some (l0) := cellB h21 x360
      have l388 : w.heap.size < w21.heap.size := by omega
      have x389 : w21.cell? ⟨w.heap.size + 1, 0, none⟩ = some (.string (x1).name) := cellB h21 x362
      have x390 : w21.cell? ⟨w.heap.size + 1, 1, none⟩ = some (l1) := cellB h21 x363
      have l391 : w.heap.size + 1 < w21.heap.size := by omega
      have x392 : w21.cell? ⟨b9, 0, none⟩ = some (.string (apV (x0) (x1) (n2)).name) := cellB h21 x365
      have x393 : w21.cell? ⟨b9, 1, none⟩ = some (.slice a72 (apV (x0) (x1) (n2)).tones.length c73) := cellB h21 x366
      have l394 : b9 < w21.heap.size := by omega
      have x395 : w21.cell? ⟨w11.heap.size, 0, none⟩ = some (.string (x0).name) := cellB h21 x368
      have x396 : w21.cell? ⟨w11.heap.size, 1, none⟩ = some (.slice a116 (x0).tones.length c117) := cellB h21 x369
      have l397 : w11.heap.size < w21.heap.size := by omega
      have x398 : w21.cell? ⟨w12.heap.size, 0, none⟩ = some (.string (x1).name) := cellB h21 x371
      have x399 : w21.cell? ⟨w12.heap.size, 1, none⟩ = some (.slice a134 (x1).tones.length c135) := cellB h21 x372
      have l400 : w12.heap.size < w21.heap.size := by omega
      have x401 : w21.cell? ⟨w13.heap.size, 0, none⟩ = some (.string (apV (x0) (x1) (n2)).name) := cellB h21 x374
      have x402 : w21.cell? ⟨w13.heap.size, 1, none⟩ = some (.slice a156 (apV (x0) (x1) (n2)).tones.length c157) := cellB h21 x375
      have l403 : w13.heap.size < w21.heap.size := by omega
      clear f351 f352 f353 f354 f349 f356 f357 f358 x359 x360 l361 x362 x363 l364 x365 x366 l367 x368 x369 l370 x371 x372 l373 x374 x375 l376
      go_wp2_with fail
      refine (markTunK _ _ _ (apV (x0) (x1) (n2)) (1) _ f383 (by omega) (by have := hbd; omega)).mono ?_
      rintro e w22 ⟨rfl, f404, t22⟩
      have sz22 : w21.heap.size ≤ w22.heap.size := t22.size
      have bw22 : Below w.heap.size w w22 := t22.below bw21 (by omega) (by omega)
      have f406 := f378.touch t22 (by omega)
      have f407 := f379.touch t22 (by omega)
      have f408 := f380.touch t22 (by omega)
      have f409 := f381.touch t22 (by omega)
      have f410 := f382.touch t22 (by omega)
      have f412 := f384.touch t22 (by omega)
      have f413 := f385.touch t22 (by omega)
      have x414 : w22.cell? ⟨w.heap.size, 0, none⟩ = some (.string (x0).name) := cellT t22 x386 (by simp only; omega)
      have x415 : w22.cell? ⟨w.heap.size, 1, none⟩ = some (l0) := cellT t22 x387 (by simp only; omega)
      have l416 : w.heap.size < w22.heap.size := by omega
      have x417 : w22.cell? ⟨w.heap.size + 1, 0, none⟩ = some (.string (x1).name) := cellT t22 x389 (by simp only; omega)
      have x418 : w22.cell? ⟨w.heap.size + 1, 1, none⟩ = some (l1) := cellT t22 x390 (by simp only; omega)
      have l419 : w.heap.size + 1 < w22.heap.size := by omega
      have x420 : w22.cell? ⟨b9, 0, none⟩ = some (.string (apV (x0) (x1) (n2)).name) := cellT t22 x392 (by simp only; omega)
      have x421 : w22.cell? ⟨b9, 1, none⟩ = some (.slice a72 (apV (x0) (x1) (n2)).tones.length c73) := cellT t22 x393 (by simp only; omega)
      have l422 : b9 < w22.heap.size := by omega
      have x423 : w22.cell? ⟨w11.heap.size, 0, none⟩ = some (.string (x0).name) := cellT t22 x395 (by simp only; omega)
      have x424 : w22.cell? ⟨w11.heap.size, 1, none⟩ = some (.slice a116 (x0).tones.length c117) := cellT t22 x396 (by simp only; omega)
      have l425 : w11.heap.size < w22.heap.size := by omega
      have x426 : w22.cell? ⟨w12.heap.size, 0, none⟩ = some (.string (x1).name) := cellT t22 x398 (by simp only; omega)
      have x427 : w22.cell? ⟨w12.heap.size, 1, none⟩ = some (.slice a134 (x1).tones.length c135) := cellT t22 x399 (by simp only; omega)
      have l428 : w12.heap.size < w22.heap.size := by omega
      have x429 : w22.cell? ⟨w13.heap.size, 0, none⟩ = some (.string (apV (x0) (x1) (n2)).name) := cellT t22 x401 (by simp only; omega)
      have x430 : w22.cell? ⟨w13.heap.size, 1, none⟩ = some (.slice a156 (apV (x0) (x1) (n2)).tones.length c157) := cellT t22 x402 (by simp only; omega)
      have l431 : w13.heap.size < w22.heap.size := by omega
      clear f378 f379 f380 f381 f382 f384 f385 x386 x387 l388 x389 x390 l391 x392 x393 l394 x395 x396 l397 x398 x399 l400 x401 x402 l403
      clear f383
      go_wp2_with fail
      refine (heldTunK _ _ _ (apV (x0) (x1) (n2)) (1) _ f404 (by omega) (by have := hbd; omega)).mono ?_
      rintro e w23 ⟨rfl, h23⟩
      have sz23 : w22.heap.size ≤ w23.heap.size := h23.size
      have bw23 : Below w.heap.size w w23 := bw22.trans (h23.mono bw22.size)
      have f433 := f406.mono h23
      have f434 := f407.mono h23
      have f435 := f408.mono h23
      have f436 := f409.mono h23
      have f437 := f410.mono h23
      have f438 := f404.mono h23
      have f439 := f412.mono h23
      have f440 := f413.mono h23
      have x441 : w23.cell? ⟨w.heap.size, 0, none⟩ = some (.string (x0).name) := cellB h23 x414
      have x442 : w23.cell? ⟨w.heap.size, 1, none⟩ = some (l0) := cellB h23 x415
      have l443 : w.heap.size < w23.heap.size := by omega
      have x444 : w23.cell? ⟨w.heap.size + 1, 0, none⟩ = some (.string (x1).name) := cellB h23 x417
      have x445 : w23.cell? ⟨w.heap.size + 1, 1, none⟩ = some (l1) := cellB h23 x418
      have l446 : w.heap.size + 1 < w23.heap.size := by omega
      have x447 : w23.cell? ⟨b9, 0, none⟩ = some (.string (apV (x0) (x1) (n2)).name) := cellB h23 x420
      have x448 : w23.cell? ⟨b9, 1, none⟩ = some (.slice a72 (apV (x0) (x1) (n2)).tones.length c73) := cellB h23 x421
      have l449 : b9 < w23.heap.size := by omega
      have x450 : w23.cell? ⟨w11.heap.size, 0, none⟩ = some (.string (x0).name) := cellB h23 x423
      have x451 : w23.cell? ⟨w11.heap.size, 1, none⟩ = some (.slice a116 (x0).tones.length c117) := cellB h23 x424
      have l452 : w11.heap.size < w23.heap.size := by omega
      have x453 : w23.cell? ⟨w12.heap.size, 0, none⟩ = some (.string (x1).name) := cellB h23 x426
      have x454 : w23.cell? ⟨w12.heap.size, 1, none⟩ = some (.slice a134 (x1).tones.length c135) := cellB h23 x427
      have l455 : w12.heap.size < w23.heap.size := by omega
      have x456 : w23.cell? ⟨w13.heap.size, 0, none⟩ = some (.string (apV (x0) (x1) (n2)).name) := cellB h23 x429
      have x457 : w23.cell? ⟨w13.heap.size, 1, none⟩ = some (.slice a156 (apV (x0) (x1) (n2)).tones.length c157) := cellB h23 x430
      have l458 : w13.heap.size < w23.heap.size := by omega
      clear f406 f407 f408 f409 f410 f404 f412 f413 x414 x415 l416 x417 x418 l419 x420 x421 l422 x423 x424 l425 x426 x427 l428 x429 x430 l431
      go_wp2_with fail
      refine wp_region_float 9 [(0, some true), (2, some true), (4, some true), (1, some false), (3, some false), (5, some false), (6, some true), (7, some true), (8, some true), (9, none), (10, some false), (11, some true)] (by kernel_rfl) (by kernel_rfl) ?_
      (repeat (with_reducible refine wpOrdF_soft (fun K hK => ?_); simp only [List.getElem?_toArray, List.getElem?_cons_zero, List.getElem?_cons_succ]; first | (go_simp; refine hK _ ?_) | (simp only [undef]; go_simp; refine hK _ ?_); clear hK K))
      refine wpOrdF_hard (d := 17) (obj := (.cells #[.string ⟨#[]⟩, .slice none 0 0] 29)) (fun K a w h => wpOp_only (by simp only [List.getElem?_toArray, List.getElem?_cons_zero, List.getElem?_cons_succ]; go_wp2_with fail; exact h)) (by simp) (grown_draw _) (Fl.start _ _ _) ?_
      intro pd24 u24 w24 hs24 _ hf24
      have st459 : Below w23.heap.size w23 w24 := undrew hs24
      have sz24 : w23.heap.size ≤ w24.heap.size := st459.size
      have bw24 : Below w.heap.size w w24 := bw23.trans (st459.mono bw23.size)
      have f460 := f433.mono st459
      have f461 := f434.mono st459
      have f462 := f435.mono st459
      have f463 := f436.mono st459
      have f464 := f437.mono st459
      have f465 := f438.mono st459
      have f466 := f439.mono st459
      have f467 := f440.mono st459
      have x468 : w24.cell? ⟨w.heap.size, 0, none⟩ = some (.string (x0).name) := cellB st459 x441
      have x469 : w24.cell? ⟨w.heap.size, 1, none⟩ = some (l0) := cellB st459 x442
      have l470 : w.heap.size < w24.heap.size := by omega
      have x471 : w24.cell? ⟨w.heap.size + 1, 0, none⟩ = some (.string (x1).name) := cellB st459 x444
      have x472 : w24.cell? ⟨w.heap.size + 1, 1, none⟩ = some (l1) := cellB st459 x445
      have l473 : w.heap.size + 1 < w24.heap.size := by omega
      have x474 : w24.cell? ⟨b9, 0, none⟩ = some (.string (apV (x0) (x1) (n2)).name) := cellB st459 x447
      have x475 : w24.cell? ⟨b9, 1, none⟩ = some (.slice a72 (apV (x0) (x1) (n2)).tones.length c73) := cellB st459 x448
      have l476 : b9 < w24.heap.size := by omega
      have x477 : w24.cell? ⟨w11.heap.size, 0, none⟩ = some (.string (x0).name) := cellB st459 x450
      have x478 : w24.cell? ⟨w11.heap.size, 1, none⟩ = some (.slice a116 (x0).tones.length c117) := cellB st459 x451
      have l479 : w11.heap.size < w24.heap.size := by omega
      have x480 : w24.cell? ⟨w12.heap.size, 0, none⟩ = some (.string (x1).name) := cellB st459 x453
      have x481 : w24.cell? ⟨w12.heap.size, 1, none⟩ = some (.slice a134 (x1).tones.length c135) := cellB st459 x454
      have l482 : w12.heap.size < w24.heap.size := by omega
      have x483 : w24.cell? ⟨w13.heap.size, 0, none⟩ = some (.string (apV (x0) (x1) (n2)).name) := cellB st459 x456
      have x484 : w24.cell? ⟨w13.heap.size, 1, none⟩ = some (.slice a156 (apV (x0) (x1) (n2)).tones.length c157) := cellB st459 x457
      have l485 : w13.heap.size < w24.heap.size := by omega
      clear f433 f434 f435 f436 f437 f438 f439 f440 x441 x442 l443 x444 x445 l446 x447 x448 l449 x450 x451 l452 x453 x454 l455 x456 x457 l458 hs24
      simp only [List.getElem?_toArray, List.getElem?_cons_zero, List.getElem?_cons_succ]
      go_wp2_with fail
      refine (toTunK _ (x0) _ (r0.mono (by have hbw := bw24; (repeat (first | with_reducible exact Below.refl _ _ | with_reducible exact hbw | (with_reducible refine Below.setCell ?_ ?_ _; rotate_left; · first | exact Nat.le_refl _ | omega | (simp; done) | (simp; omega)) | (with_reducible refine Below.alloc ?_ ?_ _; rotate_left; · first | exact Nat.le_refl _ | omega | (simp; done) | (simp; omega)) | with_reducible refine below_drewN ?_ _ | with_reducible refine Below.drew ?_)))) q0).mono ?_
      rintro e w25 ⟨v486, rfl, ho487, h25⟩
      obtain ⟨a488, c489, rfl⟩ := ho487.form
      have f490 : OwnTun w24.heap.size w25.heap.size w25 (.agg #[.string (x0).name, .slice a488 (x0).tones.length c489]) (x0) := ho487
      clear ho487
      have sz25 : w24.heap.size ≤ w25.heap.size := h25.size
      have bw25 : Below w.heap.size w w25 := bw24.trans (h25.mono bw24.size)
      have f492 := f460.mono h25
      have f493 := f461.mono h25
      have f494 := f462.mono h25
      have f495 := f463.mono h25
      have f496 := f464.mono h25
      have f497 := f465.mono h25
      have f498 := f466.mono h25
      have f499 := f467.mono h25
      have x500 : w25.cell? ⟨w.heap.size, 0, none⟩ = some (.string (x0).name) := cellB h25 x468
      have x501 : w25.cell? ⟨w.heap.size, 1, none⟩ = some (l0) := cellB h25 x469
      have l502 : w.heap.size < w25.heap.size := by omega
      have x503 : w25.cell? ⟨w.heap.size + 1, 0, none⟩ = some (.string (x1).name) := cellB h25 x471
      have x504 : w25.cell? ⟨w.heap.size + 1, 1, none⟩ = some (l1) := cellB h25 x472
      have l505 : w.heap.size + 1 < w25.heap.size := by omega
      have x506 : w25.cell? ⟨b9, 0, none⟩ = some (.string (apV (x0) (x1) (n2)).name) := cellB h25 x474
      have x507 : w25.cell? ⟨b9, 1, none⟩ = some (.slice a72 (apV (x0) (x1) (n2)).tones.length c73) := cellB h25 x475
      have l508 : b9 < w25.heap.size := by omega
      have x509 : w25.cell? ⟨w11.heap.size, 0, none⟩ = some (.string (x0).name) := cellB h25 x477
      have x510 : w25.cell? ⟨w11.heap.size, 1, none⟩ = some (.slice a116 (x0).tones.length c117) := cellB h25 x478
      have l511 : w11.heap.size < w25.heap.size := by omega
      have x512 : w25.cell? ⟨w12.heap.size, 0, none⟩ = some (.string (x1).name) := cellB h25 x480
      have x513 : w25.cell? ⟨w12.heap.size, 1, none⟩ = some (.slice a134 (x1).tones.length c135) := cellB h25 x481
      have l514 : w12.heap.size < w25.heap.size := by omega
      have x515 : w25.cell? ⟨w13.heap.size, 0, none⟩ = some (.string (apV (x0) (x1) (n2)).name) := cellB h25 x483
      have x516 : w25.cell? ⟨w13.heap.size, 1, none⟩ = some (.slice a156 (apV (x0) (x1) (n2)).tones.length c157) := cellB h25 x484
      have l517 : w13.heap.size < w25.heap.size := by omega
      clear f460 f461 f462 f463 f464 f465 f466 f467 x468 x469 l470 x471 x472 l473 x474 x475 l476 x477 x478 l479 x480 x481 l482 x483 x484 l485
      have rg518 : Below w23.heap.size w23 w25 := st459.trans (h25.mono st459.size)
      have fl519 := hf24.call h25
      go_wp2_with fail
      refine ⟨grown_of_below rg518, ?_⟩
      (repeat (with_reducible refine wpOrdF_soft (fun K hK => ?_); simp only [List.getElem?_toArray, List.getElem?_cons_zero, List.getElem?_cons_succ]; first | (go_simp; refine hK _ ?_) | (simp only [undef]; go_simp; refine hK _ ?_); clear hK K))
      refine wpOrdF_hard (d := 17) (obj := (.cells #[.string ⟨#[]⟩, .slice none 0 0] 29)) (fun K a w h => wpOp_only (by simp only [List.getElem?_toArray, List.getElem?_cons_zero, List.getElem?_cons_succ]; go_wp2_with fail; exact h)) (by simp) (grown_of_below rg518) fl519 ?_
      intro pd26 u26 w26 hs26 _ hf26
      have sz26 : w25.heap.size ≤ w26.heap.size := hs26.size
      have bw26 : Below w.heap.size w w26 := bw25.trans (hs26.mono bw25.size)
      have f521 := f492.mono hs26
      have f522 := f493.mono hs26
      have f523 := f494.mono hs26
      have f524 := f495.mono hs26
      have f525 := f496.mono hs26
      have f526 := f497.mono hs26
      have f527 := f498.mono hs26
      have f528 := f499.mono hs26
      have f529 := f490.mono hs26
      have x530 : w26.cell? ⟨w.heap.size, 0, none⟩ = some (.string (x0).name) := cellB hs26 x500
      have x531 : w26.cell? ⟨w.heap.size, 1, none⟩ = some (l0) := cellB hs26 x501
      have l532 : w.heap.size < w26.heap.size := by omega
      have x533 : w26.cell? ⟨w.heap.size + 1, 0, none⟩ = some (.string (x1).name) := cellB hs26 x503
      have x534 : w26.cell? ⟨w.heap.size + 1, 1, none⟩ = some (l1) := cellB hs26 x504
      have l535 : w.heap.size + 1 < w26.heap.size := by omega
      have x536 : w26.cell? ⟨b9, 0, none⟩ = some (.string (apV (x0) (x1) (n2)).name) := cellB hs26 x506
      have x537 : w26.cell? ⟨b9, 1, none⟩ = some (.slice a72 (apV (x0) (x1) (n2)).tones.length c73) := cellB hs26 x507
      have l538 : b9 < w26.heap.size := by omega
      have x539 : w26.cell? ⟨w11.heap.size, 0, none⟩ = some (.string (x0).name) := cellB hs26 x509
      have x540 : w26.cell? ⟨w11.heap.size, 1, none⟩ = some (.slice a116 (x0).tones.length c117) := cellB hs26 x510
      have l541 : w11.heap.size < w26.heap.size := by omega
      have x542 : w26.cell? ⟨w12.heap.size, 0, none⟩ = some (.string (x1).name) := cellB hs26 x512
      have x543 : w26.cell? ⟨w12.heap.size, 1, none⟩ = some (.slice a134 (x1).tones.length c135) := cellB hs26 x513
      have l544 : w12.heap.size < w26.heap.size := by omega
      have x545 : w26.cell? ⟨w13.heap.size, 0, none⟩ = some (.string (apV (x0) (x1) (n2)).name) := cellB hs26 x515
      have x546 : w26.cell? ⟨w13.heap.size, 1, none⟩ = some (.slice a156 (apV (x0) (x1) (n2)).tones.length c157) := cellB hs26 x516
      have l547 : w13.heap.size < w26.heap.size := by omega
      clear f492 f493 f494 f495 f496 f497 f498 f499 f490 x500 x501 l502 x503 x504 l505 x506 x507 l508 x509 x510 l511 x512 x513 l514 x515 x516 l517
      have rg548 : Below w23.heap.size w23 w26 := rg518.trans (hs26.mono rg518.size)
      simp only [List.getElem?_toArray, List.getElem?_cons_zero, List.getElem?_cons_succ]
      go_wp2_with fail
      refine (toTunK _ (x1) _ (r1.mono (by have hbw := bw26; (repeat (first | with_reducible exact Below.refl _ _ | with_reducible exact hbw | (with_reducible refine Below.setCell ?_ ?_ _; rotate_left; · first | exact Nat.le_refl _ | omega | (simp; done) | (simp; omega)) | (with_reducible refine Below.alloc ?_ ?_ _; rotate_left; · first | exact Nat.le_refl _ | omega | (simp; done) | (simp; omega)) | with_reducible refine below_drewN ?_ _ | with_reducible refine Below.drew ?_)))) q1).mono ?_
      rintro e w27 ⟨v549, rfl, ho550, h27⟩
      obtain ⟨a551, c552, rfl⟩ := ho550.form
      have f553 : OwnTun w26.heap.size w27.heap.size w27 (.agg #[.string (x1).name, .slice a551 (x1).tones.length c552]) (x1) := ho550
      clear ho550
      have sz27 : w26.heap.size ≤ w27.heap.size := h27.size
      have bw27 : Below w.heap.size w w27 := bw26.trans (h27.mono bw26.size)
      have f555 := f521.mono h27
      have f556 := f522.mono h27
      have f557 := f523.mono h27
      have f558 := f524.mono h27
      have f559 := f525.mono h27
      have f560 := f526.mono h27
      have f561 := f527.mono h27
      have f562 := f528.mono h27
      have f563 := f529.mono h27
      have x564 : w27.cell? ⟨w.heap.size, 0, none⟩ = some (.string (x0).name) := cellB h27 x530
      have x565 : w27.cell? ⟨w.heap.size, 1, none⟩ = some (l0) := cellB h27 x531
      have l566 : w.heap.size < w27.heap.size := by omega
      have x567 : w27.cell? ⟨w.heap.size + 1, 0, none⟩ = some (.string (x1).name) := cellB h27 x533
      have x568 : w27.cell? ⟨w.heap.size + 1, 1, none⟩ = some (l1) := cellB h27 x534
      have l569 : w.heap.size + 1 < w27.heap.size := by omega
      have x570 : w27.cell? ⟨b9, 0, none⟩ = some (.string (apV (x0) (x1) (n2)).name) := cellB h27 x536
      have x571 : w27.cell? ⟨b9, 1, none⟩ = some (.slice a72 (apV (x0) (x1) (n2)).tones.length c73) := cellB h27 x537
      have l572 : b9 < w27.heap.size := by omega
      have x573 : w27.cell? ⟨w11.heap.size, 0, none⟩ = some (.string (x0).name) := cellB h27 x539
      have x574 : w27.cell? ⟨w11.heap.size, 1, none⟩ = some (.slice a116 (x0).tones.length c117) := cellB h27 x540
      have l575 : w11.heap.size < w27.heap.size := by omega
      have x576 : w27.cell? ⟨w12.heap.size, 0, none⟩ = some (.string (x1).name) := cellB h27 x542
      have x577 : w27.cell? ⟨w12.heap.size, 1, none⟩ = some (.slice a134 (x1).tones.length c135) := cellB h27 x543
      have l578 : w12.heap.size < w27.heap.size := by omega
      have x579 : w27.cell? ⟨w13.heap.size, 0, none⟩ = some (.string (apV (x0) (x1) (n2)).name) := cellB h27 x545
      have x580 : w27.cell? ⟨w13.heap.size, 1, none⟩ = some (.slice a156 (apV (x0) (x1) (n2)).tones.length c157) := cellB h27 x546
      have l581 : w13.heap.size < w27.heap.size := by omega
      clear f521 f522 f523 f524 f525 f526 f527 f528 f529 x530 x531 l532 x533 x534 l535 x536 x537 l538 x539 x540 l541 x542 x543 l544 x545 x546 l547
      have rg582 : Below w23.heap.size w23 w27 := rg548.trans (h27.mono rg548.size)
      have fl583 := hf26.call h27
      go_wp2_with fail
      refine ⟨grown_of_below rg582, ?_⟩
      (repeat (with_reducible refine wpOrdF_soft (fun K hK => ?_); simp only [List.getElem?_toArray, List.getElem?_cons_zero, List.getElem?_cons_succ]; first | (go_simp; refine hK _ ?_) | (simp only [undef]; go_simp; refine hK _ ?_); clear hK K))
      refine wpOrdF_hard (d := 17) (obj := (.cells #[.string ⟨#[]⟩, .slice none 0 0] 29)) (fun K a w h => wpOp_only (by simp only [List.getElem?_toArray, List.getElem?_cons_zero, List.getElem?_cons_succ]; go_wp2_with fail; exact h)) (by simp) (grown_of_below rg582) fl583 ?_
      intro pd28 u28 w28 hs28 _ hf28
      have sz28 : w27.heap.size ≤ w28.heap.size := hs28.size
      have bw28 : Below w.heap.size w w28 := bw27.trans (hs28.mono bw27.size)
      have f585 := f555.mono hs28
      have f586 := f556.mono hs28
      have f587 := f557.mono hs28
      have f588 := f558.mono hs28
      have f589 := f559.mono hs28
      have f590 := f560.mono hs28
      have f591 := f561.mono hs28
      have f592 := f562.mono hs28
      have f593 := f563.mono hs28
      have f594 := f553.mono hs28
      have x595 : w28.cell? ⟨w.heap.size, 0, none⟩ = some (.string (x0).name) := cellB hs28 x564
      have x596 : w28.cell? ⟨w.heap.size, 1, none⟩ = some (l0) := cellB hs28 x565
      have l597 : w.heap.size < w28.heap.size := by omega
      have x598 : w28.cell? ⟨w.heap.size + 1, 0, none⟩ = some (.string (x1).name) := cellB hs28 x567
      have x599 : w28.cell? ⟨w.heap.size + 1, 1, none⟩ = some (l1) := cellB hs28 x568
      have l600 : w.heap.size + 1 < w28.heap.size := by omega
      have x601 : w28.cell? ⟨b9, 0, none⟩ = some (.string (apV (x0) (x1) (n2)).name) := cellB hs28 x570
      have x602 : w28.cell? ⟨b9, 1, none⟩ = some (.slice a72 (apV (x0) (x1) (n2)).tones.length c73) := cellB hs28 x571
      have l603 : b9 < w28.heap.size := by omega
      have x604 : w28.cell? ⟨w11.heap.size, 0, none⟩ = some (.string (x0).name) := cellB hs28 x573
      have x605 : w28.cell? ⟨w11.heap.size, 1, none⟩ = some (.slice a116 (x0).tones.length c117) := cellB hs28 x574
      have l606 : w11.heap.size < w28.heap.size := by omega
      have x607 : w28.cell? ⟨w12.heap.size, 0, none⟩ = some (.string (x1).name) := cellB hs28 x576
      have x608 : w28.cell? ⟨w12.heap.size, 1, none⟩ = some (.slice a134 (x1).tones.length c135) := cellB hs28 x577
      have l609 : w12.heap.size < w28.heap.size := by omega
      have x610 : w28.cell? ⟨w13.heap.size, 0, none⟩ = some (.string (apV (x0) (x1) (n2)).name) := cellB hs28 x579
      have x611 : w28.cell? ⟨w13.heap.size, 1, none⟩ = some (.slice a156 (apV (x0) (x1) (n2)).tones.length c157) := cellB hs28 x580
      have l612 : w13.heap.size < w28.heap.size := by omega
      clear f555 f556 f557 f558 f559 f560 f561 f562 f563 f553 x564 x565 l566 x567 x568 l569 x570 x571 l572 x573 x574 l575 x576 x577 l578 x579 x580 l581
      have rg613 : Below w23.heap.size w23 w28 := rg582.trans (hs28.mono rg582.size)
      simp only [List.getElem?_toArray, List.getElem?_cons_zero, List.getElem?_cons_succ]
      go_wp2_with fail
      refine (implAppendTune_any _ (x0) _ (x1) (n2) _ (OwnTun.rd f593) o0 q0 (OwnTun.rd f594) o1 q1 o2).mono ?_
      rintro e w29 ⟨v614, rfl, ho615, h29⟩
      obtain ⟨a616, c617, rfl⟩ := ho615.form
      have f618 : OwnTun w28.heap.size w29.heap.size w29 (.agg #[.string (apV (x0) (x1) (n2)).name, .slice a616 (apV (x0) (x1) (n2)).tones.length c617]) (apV (x0) (x1) (n2)) := ho615
      clear ho615
      have sz29 : w28.heap.size ≤ w29.heap.size := h29.size
      have bw29 : Below w.heap.size w w29 := bw28.trans (h29.mono bw28.size)
      have f620 := f585.mono h29
      have f621 := f586.mono h29
      have f622 := f587.mono h29
      have f623 := f588.mono h29
      have f624 := f589.mono h29
      have f625 := f590.mono h29
      have f626 := f591.mono h29
      have f627 := f592.mono h29
      have f628 := f593.mono h29
      have f629 := f594.mono h29
      have x630 : w29.cell? ⟨w.heap.size, 0, none⟩ = some (.string (x0).name) := cellB h29 x595
      have x631 : w29.cell? ⟨w.heap.size, 1, none⟩ = some (l0) := cellB h29 x596
      have l632 : w.heap.size < w29.heap.size := by omega
      have x633 : w29.cell? ⟨w.heap.size + 1, 0, none⟩ = some (.string (x1).name) := cellB h29 x598
      have x634 : w29.cell? ⟨w.heap.size + 1, 1, none⟩ = some (l1) := cellB h29 x599
      have l635 : w.heap.size + 1 < w29.heap.size := by omega
      have x636 : w29.cell? ⟨b9, 0, none⟩ = some (.string (apV (x0) (x1) (n2)).name) := cellB h29 x601
      have x637 : w29.cell? ⟨b9, 1, none⟩ = some (.slice a72 (apV (x0) (x1) (n2)).tones.length c73) := cellB h29 x602
      have l638 : b9 < w29.heap.size := by omega
      have x639 : w29.cell? ⟨w11.heap.size, 0, none⟩ = some (.string (x0).name) := cellB h29 x604
      have x640 : w29.cell? ⟨w11.heap.size, 1, none⟩ = some (.slice a116 (x0).tones.length c117) := cellB h29 x605
      have l641 : w11.heap.size < w29.heap.size := by omega
      have x642 : w29.cell? ⟨w12.heap.size, 0, none⟩ = some (.string (x1).name) := cellB h29 x607
      have x643 : w29.cell? ⟨w12.heap.size, 1, none⟩ = some (.slice a134 (x1).tones.length c135) := cellB h29 x608
      have l644 : w12.heap.size < w29.heap.size := by omega
      have x645 : w29.cell? ⟨w13.heap.size, 0, none⟩ = some (.string (apV (x0) (x1) (n2)).name) := cellB h29 x610
      have x646 : w29.cell? ⟨w13.heap.size, 1, none⟩ = some (.slice a156 (apV (x0) (x1) (n2)).tones.length c157) := cellB h29 x611
      have l647 : w13.heap.size < w29.heap.size := by omega
      clear f585 f586 f587 f588 f589 f590 f591 f592 f593 f594 x595 x596 l597 x598 x599 l600 x601 x602 l603 x604 x605 l606 x607 x608 l609 x610 x611 l612
      have rg648 : Below w23.heap.size w23 w29 := rg613.trans (h29.mono rg613.size)
      have fl649 := hf28.call h29
      go_wp2_with fail
      refine ⟨grown_of_below rg648, ?_⟩
      (repeat (with_reducible refine wpOrdF_soft (fun K hK => ?_); simp only [List.getElem?_toArray, List.getElem?_cons_zero, List.getElem?_cons_succ]; first | (go_simp; refine hK _ ?_) | (simp only [undef]; go_simp; refine hK _ ?_); clear hK K))
      refine wpOrdF_settle (d := 17) (obj := (.cells #[.string ⟨#[]⟩, .slice none 0 0] 29)) (fun K a w h => wpOp_only (by simp only [List.getElem?_toArray, List.getElem?_cons_zero, List.getElem?_cons_succ]; go_wp2_with fail; exact h)) (by simp) (grown_of_below rg648) fl649 ?_
      intro b30 w30 hs30 _ hlo30 hhi30 hob30 hL30
      have sz30 : w29.heap.size ≤ w30.heap.size := hs30.size
      have bw30 : Below w.heap.size w w30 := bw29.trans (hs30.mono bw29.size)
      have f651 := f620.mono hs30
      have f652 := f621.mono hs30
      have f653 := f622.mono hs30
      have f654 := f623.mono hs30
      have f655 := f624.mono hs30
      have f656 := f625.mono hs30
      have f657 := f626.mono hs30
      have f658 := f627.mono hs30
      have f659 := f628.mono hs30
      have f660 := f629.mono hs30
      have f661 := f618.mono hs30
      have x662 : w30.cell? ⟨w.heap.size, 0, none⟩ = some (.string (x0).name) := cellB hs30 x630
      have x663 : w30.cell? ⟨w.heap.size, 1, none⟩ = some (l0) := cellB hs30 x631
      have l664 : w.heap.size < w30.heap.size := by omega
      have x665 : w30.cell? ⟨w.heap.size + 1, 0, none⟩ = some (.string (x1).name) := cellB hs30 x633
      have x666 : w30.cell? ⟨w.heap.size + 1, 1, none⟩ = some (l1) := cellB hs30 x634
      have l667 : w.heap.size + 1 < w30.heap.size := by omega
      have x668 : w30.cell? ⟨b9, 0, none⟩ = some (.string (apV (x0) (x1) (n2)).name) := cellB hs30 x636
      have x669 : w30.cell? ⟨b9, 1, none⟩ = some (.slice a72 (apV (x0) (x1) (n2)).tones.length c73) := cellB hs30 x637
      have l670 : b9 < w30.heap.size := by omega
      have x671 : w30.cell? ⟨w11.heap.size, 0, none⟩ = some (.string (x0).name) := cellB hs30 x639
      have x672 : w30.cell? ⟨w11.heap.size, 1, none⟩ = some (.slice a116 (x0).tones.length c117) := cellB hs30 x640
      have l673 : w11.heap.size < w30.heap.size := by omega
      have x674 : w30.cell? ⟨w12.heap.size, 0, none⟩ = some (.string (x1).name) := cellB hs30 x642
      have x675 : w30.cell? ⟨w12.heap.size, 1, none⟩ = some (.slice a134 (x1).tones.length c135) := cellB hs30 x643
      have l676 : w12.heap.size < w30.heap.size := by omega
      have x677 : w30.cell? ⟨w13.heap.size, 0, none⟩ = some (.string (apV (x0) (x1) (n2)).name) := cellB hs30 x645
      have x678 : w30.cell? ⟨w13.heap.size, 1, none⟩ = some (.slice a156 (apV (x0) (x1) (n2)).tones.length c157) := cellB hs30 x646
      have l679 : w13.heap.size < w30.heap.size := by omega
      clear f620 f621 f622 f623 f624 f625 f626 f627 f628 f629 f618 x630 x631 l632 x633 x634 l635 x636 x637 l638 x639 x640 l641 x642 x643 l644 x645 x646 l647
      have rg680 : Below w23.heap.size w23 w30 := rg648.trans (hs30.mono rg648.size)
      simp only [List.mem_cons, List.not_mem_nil, or_false, forall_eq_or_imp, forall_eq] at hL30
      have hbl30 : w.heap.size ≤ b30 := by omega
      have c681 := cell_fresh (o := 0) hob30 rfl
      have z683 := frozen_fresh (o := 0) hob30
      have c682 := cell_fresh (o := 1) hob30 rfl
      have z684 := frozen_fresh (o := 1) hob30
      (repeat (with_reducible refine wpOrdF_soft (fun K hK => ?_); simp only [List.getElem?_toArray, List.getElem?_cons_zero, List.getElem?_cons_succ]; first | (go_simp; refine hK _ ?_) | (simp only [undef]; go_simp; refine hK _ ?_); clear hK K))
      refine wpOrdF_last ?_
      simp only [List.getElem?_toArray, List.getElem?_cons_zero, List.getElem?_cons_succ]
      go_wp2_with fail
      refine ⟨(grown_setNew (grown_setNew (grown_of_below rg680) hlo30 _) hlo30 _), ?_⟩
      (repeat (with_reducible refine wpOrdF_soft (fun K hK => ?_); simp only [List.getElem?_toArray, List.getElem?_cons_zero, List.getElem?_cons_succ]; first | (go_simp; refine hK _ ?_) | (simp only [undef]; go_simp; refine hK _ ?_); clear hK K))
      (with_reducible refine wpOrdF_nil ?_); refine NoPanic.normal ?_
      obtain ⟨w31, hw31⟩ : ∃ wX : World, wX = ((w30.setCell ⟨b30, 0, none⟩ (.string (apV (x0) (x1) (n2)).name)).setCell ⟨b30, 1, none⟩ (.slice a616 (apV (x0) (x1) (n2)).tones.length c617)) := ⟨_, rfl⟩
      rw [← hw31]
      have ht31 : Touch b30 (b30 + 1) w30 w31 := by rw [hw31]; exact (Touch.setCell (Touch.setCell (Touch.refl b30 (b30 + 1) _) (by simp) _) (by simp) _)
      have x685 : w31.cell? ⟨b30, 0, none⟩ = some (.string (apV (x0) (x1) (n2)).name) := by rw [hw31]; simp [go_sem, c681, c682, z683, z684, hhi30]
      have x686 : w31.cell? ⟨b30, 1, none⟩ = some (.slice a616 (apV (x0) (x1) (n2)).tones.length c617) := by rw [hw31]; simp [go_sem, c681, c682, z683, z684, hhi30]
      clear hw31 hob30 c681 c682 z683 z684
      have sz31 : w30.heap.size ≤ w31.heap.size := ht31.size
      have bw31 : Below w.heap.size w w31 := ht31.below bw30 (by omega) (by omega)
      have f688 := f651.touch ht31 (by omega)
      have f689 := f652.touch ht31 (by omega)
      have f690 := f653.touch ht31 (by omega)
      have f691 := f654.touch ht31 (by omega)
      have f692 := f655.touch ht31 (by omega)
      have f693 := f656.touch ht31 (by omega)
      have f694 := f657.touch ht31 (by omega)
      have f695 := f658.touch ht31 (by omega)
      have f696 := f659.touch ht31 (by omega)
      have f697 := f660.touch ht31 (by omega)
      have f698 := f661.touch ht31 (by omega)
      have x699 : w31.cell? ⟨w.heap.size, 0, none⟩ = some (.string (x0).name) := cellT ht31 x662 (by simp only; omega)
      have x700 : w31.cell? ⟨w.heap.size, 1, none⟩ = some (l0) := cellT ht31 x663 (by simp only; omega)
      have l701 : w.heap.size < w31.heap.size := by omega
      have x702 : w31.cell? ⟨w.heap.size + 1, 0, none⟩ = some (.string (x1).name) := cellT ht31 x665 (by simp only; omega)
      have x703 : w31.cell? ⟨w.heap.size + 1, 1, none⟩ = some (l1) := cellT ht31 x666 (by simp only; omega)
      have l704 : w.heap.size + 1 < w31.heap.size := by omega
      have x705 : w31.cell? ⟨b9, 0, none⟩ = some (.string (apV (x0) (x1) (n2)).name) := cellT ht31 x668 (by simp only; omega)
      have x706 : w31.cell? ⟨b9, 1, none⟩ = some (.slice a72 (apV (x0) (x1) (n2)).tones.length c73) := cellT ht31 x669 (by simp only; omega)
      have l707 : b9 < w31.heap.size := by omega
      have x708 : w31.cell? ⟨w11.heap.size, 0, none⟩ = some (.string (x0).name) := cellT ht31 x671 (by simp only; omega)
      have x709 : w31.cell? ⟨w11.heap.size, 1, none⟩ = some (.slice a116 (x0).tones.length c117) := cellT ht31 x672 (by simp only; omega)
      have l710 : w11.heap.size < w31.heap.size := by omega
      have x711 : w31.cell? ⟨w12.heap.size, 0, none⟩ = some (.string (x1).name) := cellT ht31 x674 (by simp only; omega)
      have x712 : w31.cell? ⟨w12.heap.size, 1, none⟩ = some (.slice a134 (x1).tones.length c135) := cellT ht31 x675 (by simp only; omega)
      have l713 : w12.heap.size < w31.heap.size := by omega
      have x714 : w31.cell? ⟨w13.heap.size, 0, none⟩ = some (.string (apV (x0) (x1) (n2)).name) := cellT ht31 x677 (by simp only; omega)
      have x715 : w31.cell? ⟨w13.heap.size, 1, none⟩ = some (.slice a156 (apV (x0) (x1) (n2)).tones.length c157) := cellT ht31 x678 (by simp only; omega)
      have l716 : w13.heap.size < w31.heap.size := by omega
      clear f651 f652 f653 f654 f655 f656 f657 f658 f659 f660 f661 x662 x663 l664 x665 x666 l667 x668 x669 l670 x671 x672 l673 x674 x675 l676 x677 x678 l679
      have l717 : b30 < w31.heap.size := by omega
      go_wp2_with fail
      refine (eqTunK _ _ (apV (x0) (x1) (n2)) _ (OwnTun.rd f698) (OwnTun.rd f690)).mono ?_
      rintro e w32 ⟨rfl, h32⟩
      have sz32 : w31.heap.size ≤ w32.heap.size := h32.size
      have bw32 : Below w.heap.size w w32 := bw31.trans (h32.mono bw31.size)
      have f719 := f688.mono h32
      have f720 := f689.mono h32
      have f721 := f690.mono h32
      have f722 := f691.mono h32
      have f723 := f692.mono h32
      have f724 := f693.mono h32
      have f725 := f694.mono h32
      have f726 := f695.mono h32
      have f727 := f696.mono h32
      have f728 := f697.mono h32
      have f729 := f698.mono h32
      have x730 : w32.cell? ⟨w.heap.size, 0, none⟩ = some (.string (x0).name) := cellB h32 x699
      have x731 : w32.cell? ⟨w.heap.size, 1, none⟩ = some (l0) := cellB h32 x700
      have l732 : w.heap.size < w32.heap.size := by omega
      have x733 : w32.cell? ⟨w.heap.size + 1, 0, none⟩ = some (.string (x1).name) := cellB h32 x702
      have x734 : w32.cell? ⟨w.heap.size + 1, 1, none⟩ = some (l1) := cellB h32 x703
      have l735 : w.heap.size + 1 < w32.heap.size := by omega
      have x736 : w32.cell? ⟨b9, 0, none⟩ = some (.string (apV (x0) (x1) (n2)).name) := cellB h32 x705
      have x737 : w32.cell? ⟨b9, 1, none⟩ = some (.slice a72 (apV (x0) (x1) (n2)).tones.length c73) := cellB h32 x706
      have l738 : b9 < w32.heap.size := by omega
      have x739 : w32.cell? ⟨w11.heap.size, 0, none⟩ = some (.string (x0).name) := cellB h32 x708
      have x740 : w32.cell? ⟨w11.heap.size, 1, none⟩ = some (.slice a116 (x0).tones.length c117) := cellB h32 x709
      have l741 : w11.heap.size < w32.heap.size := by omega
      have x742 : w32.cell? ⟨w12.heap.size, 0, none⟩ = some (.string (x1).name) := cellB h32 x711
      have x743 : w32.cell? ⟨w12.heap.size, 1, none⟩ = some (.slice a134 (x1).tones.length c135) := cellB h32 x712
      have l744 : w12.heap.size < w32.heap.size := by omega
      have x745 : w32.cell? ⟨w13.heap.size, 0, none⟩ = some (.string (apV (x0) (x1) (n2)).name) := cellB h32 x714
      have x746 : w32.cell? ⟨w13.heap.size, 1, none⟩ = some (.slice a156 (apV (x0) (x1) (n2)).tones.length c157) := cellB h32 x715
      have l747 : w13.heap.size < w32.heap.size := by omega
      have x748 : w32.cell? ⟨b30, 0, none⟩ = some (.string (apV (x0) (x1) (n2)).name) := cellB h32 x685
      have x749 : w32.cell? ⟨b30, 1, none⟩ = some (.slice a616 (apV (x0) (x1) (n2)).tones.length c617) := cellB h32 x686
      have l750 : b30 < w32.heap.size := by omega
      clear f688 f689 f690 f691 f692 f693 f694 f695 f696 f697 f698 x699 x700 l701 x702 x703 l704 x705 x706 l707 x708 x709 l710 x711 x712 l713 x714 x715 l716 x685 x686 l717
      go_wp2_with fail
      refine (heldTunK _ _ _ (apV (x0) (x1) (n2)) (1) _ f724 (by omega) (by have := hbd; omega)).mono ?_
      rintro e w33 ⟨rfl, h33⟩
      have sz33 : w32.heap.size ≤ w33.heap.size := h33.size
      have bw33 : Below w.heap.size w w33 := bw32.trans (h33.mono bw32.size)
      have f752 := f719.mono h33
      have f753 := f720.mono h33
      have f754 := f721.mono h33
      have f755 := f722.mono h33
      have f756 := f723.mono h33
      have f757 := f724.mono h33
      have f758 := f725.mono h33
      have f759 := f726.mono h33
      have f760 := f727.mono h33
      have f761 := f728.mono h33
      have f762 := f729.mono h33
      have x763 : w33.cell? ⟨w.heap.size, 0, none⟩ = some (.string (x0).name) := cellB h33 x730
      have x764 : w33.cell? ⟨w.heap.size, 1, none⟩ = some (l0) := cellB h33 x731
      have l765 : w.heap.size < w33.heap.size := by omega
      have x766 : w33.cell? ⟨w.heap.size + 1, 0, none⟩ = some (.string (x1).name) := cellB h33 x733
      have x767 : w33.cell? ⟨w.heap.size + 1, 1, none⟩ = some (l1) := cellB h33 x734
      have l768 : w.heap.size + 1 < w33.heap.size := by omega
      have x769 : w33.cell? ⟨b9, 0, none⟩ = some (.string (apV (x0) (x1) (n2)).name) := cellB h33 x736
      have x770 : w33.cell? ⟨b9, 1, none⟩ = some (.slice a72 (apV (x0) (x1) (n2)).tones.length c73) := cellB h33 x737
      have l771 : b9 < w33.heap.size := by omega
      have x772 : w33.cell? ⟨w11.heap.size, 0, none⟩ = some (.string (x0).name) := cellB h33 x739
      have x773 : w33.cell? ⟨w11.heap.size, 1, none⟩ = some (.slice a116 (x0).tones.length c117) := cellB h33 x740
      have l774 : w11.heap.size < w33.heap.size := by omega
      have x775 : w33.cell? ⟨w12.heap.size, 0, none⟩ = some (.string (x1).name) := cellB h33 x742
      have x776 : w33.cell? ⟨w12.heap.size, 1, none⟩ = some (.slice a134 (x1).tones.length c135) := cellB h33 x743
      have l777 : w12.heap.size < w33.heap.size := by omega
      have x778 : w33.cell? ⟨w13.heap.size, 0, none⟩ = some (.string (apV (x0) (x1) (n2)).name) := cellB h33 x745
      have x779 : w33.cell? ⟨w13.heap.size, 1, none⟩ = some (.slice a156 (apV (x0) (x1) (n2)).tones.length c157) := cellB h33 x746
      have l780 : w13.heap.size < w33.heap.size := by omega
      have x781 : w33.cell? ⟨b30, 0, none⟩ = some (.string (apV (x0) (x1) (n2)).name) := cellB h33 x748
      have x782 : w33.cell? ⟨b30, 1, none⟩ = some (.slice a616 (apV (x0) (x1) (n2)).tones.length c617) := cellB h33 x749
      have l783 : b30 < w33.heap.size := by omega
      clear f719 f720 f721 f722 f723 f724 f725 f726 f727 f728 f729 x730 x731 l732 x733 x734 l735 x736 x737 l738 x739 x740 l741 x742 x743 l744 x745 x746 l747 x748 x749 l750
      go_wp2
      go_ret
      exact ⟨rfl, bw33⟩
    · skip
      go_enter Try.func11, Try.ntmps11
      go_wp2_with fail
      refine (szTunY _ (x0) (1048576) _ (r0.mono (by (repeat (first | with_reducible exact Below.refl _ _ | with_reducible exact hbw | (with_reducible refine Below.setCell ?_ ?_ _; rotate_left; · first | exact Nat.le_refl _ | omega | (simp; done) | (simp; omega)) | (with_reducible refine Below.alloc ?_ ?_ _; rotate_left; · first | exact Nat.le_refl _ | omega | (simp; done) | (simp; omega)) | with_reducible refine below_drewN ?_ _ | with_reducible refine Below.drew ?_)))) o0 (by omega) (by omega) (by omega)).mono ?_
      rintro e w1 ⟨rfl, h1⟩
      have bw1 : Below w.heap.size w w1 := Below.trans (by (repeat (first | with_reducible exact Below.refl _ _ | with_reducible exact hbw | (with_reducible refine Below.setCell ?_ ?_ _; rotate_left; · first | exact Nat.le_refl _ | omega | (simp; done) | (simp; omega)) | (with_reducible refine Below.alloc ?_ ?_ _; rotate_left; · first | exact Nat.le_refl _ | omega | (simp; done) | (simp; omega)) | with_reducible refine below_drewN ?_ _ | with_reducible refine Below.drew ?_))) (h1.mono (by simp <;> omega))
      obtain ⟨hc1, hf1⟩ := bcell h1
      have z1 := h1.size
      simp only [World.size_alloc] at z1
      have z1_0 : w.heap.size < w1.heap.size := by omega
      have z1_1 : w.heap.size + 1 < w1.heap.size := by omega
      go_wp2_with fail
      refine (szTunN _ (x1) (1048576 - (szTun x0 : Int)) _ (r1.mono (by have hbw := bw1; (repeat (first | with_reducible exact Below.refl _ _ | with_reducible exact hbw | (with_reducible refine Below.setCell ?_ ?_ _; rotate_left; · first | exact Nat.le_refl _ | omega | (simp; done) | (simp; omega)) | (with_reducible refine Below.alloc ?_ ?_ _; rotate_left; · first | exact Nat.le_refl _ | omega | (simp; done) | (simp; omega)) | with_reducible refine below_drewN ?_ _ | with_reducible refine Below.drew ?_)))) o1 (by omega) (by omega) (by omega)).mono ?_
      rintro e w2 ⟨rfl, h2⟩
      have bw2 : Below w.heap.size w w2 := Below.trans (by have hbw := bw1; (repeat (first | with_reducible exact Below.refl _ _ | with_reducible exact hbw | (with_reducible refine Below.setCell ?_ ?_ _; rotate_left; · first | exact Nat.le_refl _ | omega | (simp; done) | (simp; omega)) | (with_reducible refine Below.alloc ?_ ?_ _; rotate_left; · first | exact Nat.le_refl _ | omega | (simp; done) | (simp; omega)) | with_reducible refine below_drewN ?_ _ | with_reducible refine Below.drew ?_))) (h2.mono (by have := bw1.size; simp; omega))
      go_wp2
      go_ret
      exact ⟨rfl, bw2⟩
  · skip
    go_enter Try.func11, Try.ntmps11
    go_wp2_with fail
    refine (szTunN _ (x0) (1048576) _ (r0.mono (by (repeat (first | with_reducible exact Below.refl _ _ | with_reducible exact hbw | (with_reducible refine Below.setCell ?_ ?_ _; rotate_left; · first | exact Nat.le_refl _ | omega | (simp; done) | (simp; omega)) | (with_reducible refine Below.alloc ?_ ?_ _; rotate_left; · first | exact Nat.le_refl _ | omega | (simp; done) | (simp; omega)) | with_reducible refine below_drewN ?_ _ | with_reducible refine Below.drew ?_)))) o0 (by omega) (by omega) (by omega)).mono ?_
    rintro e w1 ⟨rfl, h1⟩
    have bw1 : Below w.heap.size w w1 := Below.trans (by (repeat (first | with_reducible exact Below.refl _ _ | with_reducible exact hbw | (with_reducible refine Below.setCell ?_ ?_ _; rotate_left; · first | exact Nat.le_refl _ | omega | (simp; done) | (simp; omega)) | (with_reducible refine Below.alloc ?_ ?_ _; rotate_left; · first | exact Nat.le_refl _ | omega | (simp; done) | (simp; omega)) | with_reducible refine below_drewN ?_ _ | with_reducible refine Below.drew ?_))) (h1.mono (by simp <;> omega))
    go_wp2
    go_ret
    exact ⟨rfl, bw1⟩

end Go.Proofs.Ytfnbjegbaobpnaa
