/- The reference reads a tone. Contract of l25ReadTone. -/
import Derived.Test.YtgdfecnpkjnhnaaDoorNoteNm
import Derived.Test.YtgdfecnpkjnhnaaDoorPcs
import Derived.Test.YtgdfecnpkjnhnaaDoorNumS
import Derived.Test.YtgdfecnpkjnhnaaDoorBox
set_option linter.unusedSimpArgs false
set_option linter.unnecessarySimpa false
set_option linter.unusedVariables false
set_option maxRecDepth 100000
namespace Go.Proofs.YtgdfecnpkjnhnaaDoor
open Go.RowKit

theorem l01NumberP_any (p : List UInt8) (w : World) (hs : (bytesB p).size ≤ 1048576) :
    Calls Tryd.prog 103 #[.string (bytesB p)] w fun e w' => e = .returned (.tuple #[.int .i64 (numV p), .bool (numOk p)]) ∧ w' = w := by
  have := l01Number_any (bytesB p) w hs
  rwa [bytesB_list] at this
theorem l01SplitP_any (p : List UInt8) (c : UInt8) (w : World) (hs : (bytesB p).size ≤ 1048576) :
    Calls Tryd.prog 84 #[.string (bytesB p), .int .u8 (c.toNat : Int)] w fun e w' => ∃ v, e = .returned v ∧ Txt w' v (splitC c p) ∧ Below w.heap.size w w' := by
  have h := l01Split_any (bytesB p) c w hs
  rw [bytesB_list] at h
  exact h.mono fun e w' ⟨v, he, hp, hb⟩ => ⟨v, he, hp.txt (splitC_ne c p), hb⟩
noncomputable instance (p : List UInt8) : Decidable (toneB p) := Classical.propDecidable _
theorem two_of {l : List (List UInt8)} (h : l.length = 2) : ∃ a b, l = [a, b] := by
  match l, h with
  | [a, b], _ => exact ⟨a, b, rfl⟩
theorem piece_size' {c : UInt8} {p q : List UInt8} (h : q ∈ splitC c p) (hs : (bytesB p).size ≤ 1048576) : (bytesB q).size ≤ 1048576 := by
  rw [bytesB_size] at *
  have := piece_len (c := c) _ q h
  omega
/-- The words lie in a row of two. -/
theorem txt2 {w : World} {v : Value} {a b : List UInt8} (h : Txt w v [a, b]) : ∃ g c, v = .slice (some ⟨g, 0, none⟩) 2 c ∧ 2 ≤ c ∧ w.cell? ⟨g, 0, none⟩ = some (.string (bytesB a)) ∧ w.cell? ⟨g, 1, none⟩ = some (.string (bytesB b)) := by
  obtain ⟨g, c, rfl, hc, h⟩ := h
  exact ⟨g, c, rfl, hc, h 0 (by simp), h 1 (by simp)⟩

def RdTone (p : List UInt8) (w : World) (e : Ending) (w' : World) : Prop :=
  ∃ x : Ton, e = .returned (.tuple #[.agg #[.int .i64 x.note, .int .i64 x.start, .int .i64 x.len], .bool (decide (toneB p))]) ∧ (toneB p → x = toneV p) ∧ Below w.heap.size w w'


set_option maxHeartbeats 4000000 in
theorem l25ReadTone_any (p : List UInt8) (w : World) (hs : (bytesB p).size ≤ 1048576) :
    Calls Tryd.prog 85 #[.string (bytesB p)] w (RdTone p w) := by
  have HSP := Lib.hid fun w => l01SplitP_any p 64 w hs
  have HS := Lib.hid hs
  obtain ⟨s, hse⟩ : ∃ s, s = bytesB p := ⟨_, rfl⟩
  rw [← hse] at HSP ⊢
  clear hs hse
  go_enter Tryd.func85, Tryd.ntmps85
  go_wp2_with fail
  have B0 := Lib.hid (Box.alloc w [.int .i64 0, .int .i64 0, .int .i64 0] 59 w.heap.size rfl)
  refine (HSP.out _).mono ?_
  rintro e w1 ⟨v, rfl, ht, hb1⟩
  have B0 := Lib.hid (B0.out.mono hb1)
  have HB1 := Lib.hid (Below.trans (belowA w (.cells #[.int .i64 0, .int .i64 0, .int .i64 0] 59)) (hb1.mono (by simp)))
  clear hb1
  by_cases h2 : (splitC 64 p).length = 2
  rotate_left
  · obtain ⟨g, c, rfl, hc, _⟩ := ht
    have HN := Lib.hid (show ¬ toneB p from fun ⟨a, b, _, _, h, _⟩ => h2 (by rw [h]; rfl))
    have d1 : ((splitC 64 p).length : Int) ≠ 2 := by omega
    have d2 : (((splitC 64 p).length : Int) != 2) = true := by simp only [bne_iff_ne, ne_eq]; exact d1
    clear h2
    have r0 := B0.out.at' 0 _ rfl
    have r1 := B0.out.at' 1 _ rfl
    have r2 := B0.out.at' 2 _ rfl
    have f0 := B0.out.fr 0
    have f1 := B0.out.fr 1
    have f2 := B0.out.fr 2
    have l0 := B0.out.lt
    go_wp2
    refine bodyPost_ret (v := .tuple #[.agg #[.int .i64 0, .int .i64 0, .int .i64 0], .bool false]) (by simp [results, Tryd.results85, go_sem, r0, r1, r2, f0, f1, f2, l0]) rfl ⟨⟨0, 0, 0⟩, by rw [decide_eq_false HN.out], fun h => absurd h HN.out, ?_⟩
    have hbw := HB1.out
    (repeat (first | with_reducible exact Below.refl _ _ | with_reducible exact hbw | (with_reducible refine Below.setCell ?_ ?_ _; rotate_left; · first | exact Nat.le_refl _ | omega | (simp; done) | (simp; omega)) | (with_reducible refine Below.alloc ?_ ?_ _; rotate_left; · first | exact Nat.le_refl _ | omega | (simp; done) | (simp; omega)) | with_reducible refine below_drewN ?_ _ | with_reducible refine Below.drew ?_))
  obtain ⟨a, b, e1⟩ := two_of h2
  rw [e1] at ht
  obtain ⟨g, c, rfl, hc, a0, a1⟩ := txt2 ht
  have hz1 : w.heap.size < w1.heap.size := B0.out.lt
  have HSA := Lib.hid (piece_size' (c := 64) (p := p) (q := a) (by rw [e1]; simp) HS.out)
  have HSB := Lib.hid (piece_size' (c := 64) (p := p) (q := b) (by rw [e1]; simp) HS.out)
  have E1 := Lib.hid e1
  clear h2 ht e1
  go_wp2_with fail
  refine (l01SplitP_any b 43 _ HSB.out).mono ?_
  rintro e w2 ⟨v, rfl, ht, hb2⟩
  have B0 := Lib.hid (B0.out.mono hb2)
  have HB2 := Lib.hid (HB1.out.trans (hb2.mono (by omega)))
  have a0 := cellB hb2 a0
  clear hb2 a1
  by_cases h2 : (splitC 43 b).length = 2
  rotate_left
  · obtain ⟨g2, c2, rfl, hc2, _⟩ := ht
    have HN := Lib.hid (show ¬ toneB p from fun ⟨a', b', _, _, h, h', _⟩ => h2 (by
      rw [E1.out] at h
      simp only [List.cons.injEq, and_true] at h
      rw [h.2, h']; rfl))
    have d1 : ((splitC 43 b).length : Int) ≠ 2 := by omega
    have d2 : (((splitC 43 b).length : Int) != 2) = true := by simp only [bne_iff_ne, ne_eq]; exact d1
    clear h2
    have r0 := B0.out.at' 0 _ rfl
    have r1 := B0.out.at' 1 _ rfl
    have r2 := B0.out.at' 2 _ rfl
    have f0 := B0.out.fr 0
    have f1 := B0.out.fr 1
    have f2 := B0.out.fr 2
    have l0 := B0.out.lt
    go_wp2
    refine bodyPost_ret (v := .tuple #[.agg #[.int .i64 0, .int .i64 0, .int .i64 0], .bool false]) (by simp [results, Tryd.results85, go_sem, r0, r1, r2, f0, f1, f2, l0]) rfl ⟨⟨0, 0, 0⟩, by rw [decide_eq_false HN.out], fun h => absurd h HN.out, ?_⟩
    have hbw := HB2.out
    (repeat (first | with_reducible exact Below.refl _ _ | with_reducible exact hbw | (with_reducible refine Below.setCell ?_ ?_ _; rotate_left; · first | exact Nat.le_refl _ | omega | (simp; done) | (simp; omega)) | (with_reducible refine Below.alloc ?_ ?_ _; rotate_left; · first | exact Nat.le_refl _ | omega | (simp; done) | (simp; omega)) | with_reducible refine below_drewN ?_ _ | with_reducible refine Below.drew ?_))
  obtain ⟨x, y, e2⟩ := two_of h2
  rw [e2] at ht
  obtain ⟨g2, c2, rfl, hc2, x0, x1⟩ := txt2 ht
  have hz2 : w.heap.size < w2.heap.size := B0.out.lt
  have HSX := Lib.hid (piece_size' (c := 43) (p := b) (q := x) (by rw [e2]; simp) HSB.out)
  have HSY := Lib.hid (piece_size' (c := 43) (p := b) (q := y) (by rw [e2]; simp) HSB.out)
  have E2 := Lib.hid e2
  clear h2 ht e2
  go_wp2_with fail
  refine (specNoteNamed_any a _).mono ?_
  rintro e w3 ⟨rfl, hb3⟩
  have hz3 := hb3.size
  have B0 := Lib.hid (B0.out.mono hb3)
  have HB3 := Lib.hid (HB2.out.trans (hb3.mono (by omega)))
  have x0 := cellB hb3 x0
  have x1 := cellB hb3 x1
  clear hb3 a0
  go_wp2_with fail
  refine (l01NumberP_any x _ HSX.out).mono ?_
  rintro e w4 ⟨rfl, rfl⟩
  go_wp2_with fail
  refine (l01NumberP_any y _ HSY.out).mono ?_
  rintro e w5 ⟨rfl, rfl⟩
  have HTV := Lib.hid (toneV_of E1.out E2.out)
  have HTB := Lib.hid (show (toneB p ↔ (decide (nnB a) = true ∧ numOk x = true ∧ numOk y = true)) from by
    constructor
    · rintro ⟨a', b', c', d', h1, h2, h3, h4, h5⟩
      rw [E1.out] at h1
      simp only [List.cons.injEq, and_true] at h1
      obtain ⟨rfl, rfl⟩ := h1
      rw [E2.out] at h2
      simp only [List.cons.injEq, and_true] at h2
      obtain ⟨rfl, rfl⟩ := h2
      exact ⟨decide_eq_true h3, h4, h5⟩
    · rintro ⟨h3, h4, h5⟩
      exact ⟨_, _, _, _, E1.out, E2.out, of_decide_eq_true h3, h4, h5⟩)
  obtain ⟨o1, ho1⟩ : ∃ o, o = decide (nnB a) := ⟨_, rfl⟩
  obtain ⟨o2, ho2⟩ : ∃ o, o = numOk x := ⟨_, rfl⟩
  obtain ⟨o3, ho3⟩ : ∃ o, o = numOk y := ⟨_, rfl⟩
  rw [← ho1, ← ho2, ← ho3] at HTB ⊢
  have r0 := B0.out.at' 0 _ rfl
  have r1 := B0.out.at' 1 _ rfl
  have r2 := B0.out.at' 2 _ rfl
  have f0 := B0.out.fr 0
  have f1 := B0.out.fr 1
  have f2 := B0.out.fr 2
  have l0 := B0.out.lt
  clear ho1 ho2 ho3
  have HD := Lib.hid (show (o1 && o2 && o3) = decide (toneB p) by
    cases o1 <;> cases o2 <;> cases o3 <;> simp [HTB.out])
  cases o1 <;> cases o2 <;> cases o3
  all_goals
    go_wp2
    refine bodyPost_ret (v := .tuple #[.agg #[.int .i64 (nnV a), .int .i64 (numV x), .int .i64 (numV y)], .bool (decide (toneB p))]) (by rw [← HD.out]; simp [results, Tryd.results85, go_sem, r0, r1, r2, f0, f1, f2, l0]) rfl ⟨⟨nnV a, numV x, numV y⟩, rfl, fun _ => HTV.out.symm, ?_⟩
    have hbw := HB3.out
    (repeat (first | with_reducible exact Below.refl _ _ | with_reducible exact hbw | (with_reducible refine Below.setCell ?_ ?_ _; rotate_left; · first | exact Nat.le_refl _ | omega | (simp; done) | (simp; omega)) | (with_reducible refine Below.alloc ?_ ?_ _; rotate_left; · first | exact Nat.le_refl _ | omega | (simp; done) | (simp; omega)) | with_reducible refine below_drewN ?_ _ | with_reducible refine Below.drew ?_))

end Go.Proofs.YtgdfecnpkjnhnaaDoor
