/- The reference's source of choices: contracts of l00From, next, pick, one, among, text. -/
import Derived.Test.YteaijhmgfddjiaaDoorByts
import Derived.Test.YteaijhmgfddjiaaDoorApp
import Derived.Test.YteaijhmgfddjiaaDoorKInts
import Derived.Test.YteaijhmgfddjiaaDoorReg3
import Derived.IntWalk
import Derived.Deep.QuietTactic
import Derived.BigQuiet
import Derived.Laws.Bits64b
set_option linter.unusedSimpArgs false
set_option linter.unnecessarySimpa false
set_option linter.unusedVariables false
set_option maxRecDepth 100000
namespace Go.Proofs.YteaijhmgfddjiaaDoor
open Go.RowKit

/-- The source at block p reads bytes that came in (world w0), and has read n of them. -/
structure Src (w0 w : World) (p : Nat) (cv : Value) (n : Nat) : Prop where
  low : w0.heap.size ≤ p
  lt : p < w.heap.size
  c0 : w.cell? ⟨p, 0, none⟩ = some cv
  c1 : w.cell? ⟨p, 1, none⟩ = some (.int .i64 (n : Int))
  c2 : ∃ s : Int, w.cell? ⟨p, 2, none⟩ = some (.int .u64 s)
  fr : ∀ o, w.frozen? ⟨p, o, none⟩ = false
  below : Below w0.heap.size w0 w
theorem Src.mono {w0 w w' : World} {p n : Nat} {cv : Value} (h : Src w0 w p cv n) (hb : Below w.heap.size w w') : Src w0 w' p cv n :=
  ⟨h.low, Nat.lt_of_lt_of_le h.lt hb.size, cellB hb h.c0, cellB hb h.c1, h.c2.imp fun _ h => cellB hb h, fun o => frozenL hb h.lt (h.fr o), h.below.trans (hb.mono h.below.size)⟩
theorem Src.step {w0 w w' : World} {p n : Nat} {cv : Value} (h : Src w0 w p cv n) {B : Nat} (hB : p < B) (hb : Below B w w') : Src w0 w' p cv n :=
  ⟨h.low, Nat.lt_of_lt_of_le h.lt hb.size, cellL hb hB h.c0, cellL hb hB h.c1, h.c2.imp fun _ h => cellL hb hB h, fun o => frozenL hb hB (h.fr o), h.below.trans ⟨hb.os, hb.tape, hb.output, hb.size, fun k hk => hb.block k (by have := h.low; omega)⟩⟩

theorem wrapU (x : Int) : 0 ≤ IntKind.u64.wrap x ∧ IntKind.u64.wrap x < 18446744073709551616 := by
  simp [IntKind.wrap, IntKind.signed, IntKind.bits]; omega
theorem and_bd {s : Int} (h0 : 0 ≤ s) (h1 : s < 18446744073709551616) : 0 ≤ wrap64 (bits .and .u64 (s / 1099511627776) 255) ∧ wrap64 (bits .and .u64 (s / 1099511627776) 255) ≤ 255 := by
  obtain ⟨n, hn⟩ : ∃ n : Nat, s / 1099511627776 = (n : Int) := ⟨(s / 1099511627776).toNat, by omega⟩
  have hb : n < 18446744073709551616 := by omega
  have e := bits_and_u64_nat n 255 hb (by omega)
  rw [hn, show (255 : Int) = ((255 : Nat) : Int) from rfl, e]
  have := Nat.and_le_right (n := n) (m := 255)
  unfold wrap64
  omega
theorem Src.next {w0 w : World} {p n : Nat} {cv : Value} (h : Src w0 w p cv n) (a b : Nat) (s : Int) :
    Src w0 ((((w.drewN a).setCell ⟨p, 1, none⟩ (.int .i64 ((n : Int) + 1))).setCell ⟨p, 2, none⟩ (.int .u64 s)).drewN b) p cv (n + 1) ∧ Touch p (p + 1) w ((((w.drewN a).setCell ⟨p, 1, none⟩ (.int .i64 ((n : Int) + 1))).setCell ⟨p, 2, none⟩ (.int .u64 s)).drewN b) := by
  obtain ⟨low, lt, c0, c1, ⟨sd, c2⟩, fr, below⟩ := h
  have f1 := fr 1
  have f2 := fr 2
  have hT : Touch p (p + 1) w ((((w.drewN a).setCell ⟨p, 1, none⟩ (.int .i64 ((n : Int) + 1))).setCell ⟨p, 2, none⟩ (.int .u64 s)).drewN b) :=
    ((((Touch.refl p (p + 1) w).drewN a).setCell (by simp) _).setCell (by simp) _).drewN b
  refine ⟨⟨low, Nat.lt_of_lt_of_le lt hT.size, ?_, ?_, ⟨s, ?_⟩, fun o => ?_, hT.below below low below.size⟩, hT⟩
  · simp [go_sem, c0, lt, f1, f2]
  · simp [go_sem, c1, lt, f1, f2]
  · simp [go_sem, c2, lt, f1, f2]
  · have := fr o
    simp [go_sem, lt, f1, f2, this]

set_option maxHeartbeats 1000000 in
theorem next_any (w0 : World) (p n : Nat) (cv : Value) (bs : List Int) (w : World) (h0 : Byts w0 cv bs) (ok : okByts bs) (h : Src w0 w p cv n) (hn : n ≤ 1000000000) :
    Calls Tryd.prog 40 #[.pointer (some ⟨p, 0, none⟩)] w fun e w' => ∃ r : Int, e = .returned (.int .i64 r) ∧ 0 ≤ r ∧ r ≤ 255 ∧ Src w0 w' p cv (n + 1) ∧ Touch p (p + 1) w w' := by
  have HS0 := Lib.hid h
  obtain ⟨low, lt, c0, c1, ⟨sd, c2⟩, fr, below⟩ := h
  obtain ⟨a, ca, rfl, hca, hcm, _⟩ := id h0
  have hm : bs.length ≤ maxLen := by omega
  unfold maxLen at hm
  clear hca hcm
  have f1 := fr 1
  have f2 := fr 2
  have w1' : IntKind.i64.wrap ((n : Int) + 1) = (n : Int) + 1 := IntWalk.i64_in _ (by omega)
  by_cases g : n < bs.length
  · obtain ⟨b1, o1, rfl, x1⟩ := Sl.cells h0 (by simp <;> omega)
    have d0 := x1 n (.int .u8 bs[n]) (by simp [g])
    have hb1 := World.block_lt_of_cell? w0 _ d0
    simp only at hb1
    have d1 : w.cell? ⟨b1, o1 + n, none⟩ = some (.int .u8 bs[n]) := cellB below d0
    have hx := ok _ (List.getElem_mem g)
    have g1 : (n : Int) < (bs.length : Int) := by omega
    have gb : ¬ b1 = p := by omega
    have hbw : b1 < w.heap.size := by have := below.size; omega
    have n0 : ∀ o y, (ext w none y).cell? ⟨p, o, none⟩ = w.cell? ⟨p, o, none⟩ := fun o y => cell?_ext (w := w) lt (by simp)
    have n1 : ∀ o y, (ext w none y).cell? ⟨b1, o, none⟩ = w.cell? ⟨b1, o, none⟩ := fun o y => cell?_ext (w := w) hbw (by simp)
    clear x1 d0
    go_enter Tryd.func40, Tryd.ntmps40
    go_wp2_with fail
    go_quiet (fail)
    go_wp2_with fail
    go_quiet (fail)
    go_wp2_with fail
    obtain ⟨sd', hsd⟩ : ∃ sd', sd' = IntKind.u64.wrap (IntKind.u64.wrap (IntKind.u64.wrap (sd * 6364136223846793005) + bs[n]) + 1442695040888963407) := ⟨_, rfl⟩
    rw [← hsd]
    clear hsd
    have g2 : decide ((n : Int) + 1 ≤ (bs.length : Int)) = true := by simp; omega
    have g3 : decide (n + 1 ≤ bs.length) = true := by simp; omega
    go_quiet (fail)
    go_wp2
    go_ret
    refine ⟨_, rfl, hx.1, hx.2, ?_⟩
    exact HS0.out.next _ _ _
  · have g1 : ¬ (n : Int) < (bs.length : Int) := by omega
    have n0 : ∀ o y, (ext w none y).cell? ⟨p, o, none⟩ = w.cell? ⟨p, o, none⟩ := fun o y => cell?_ext (w := w) lt (by simp)
    go_enter Tryd.func40, Tryd.ntmps40
    go_wp2_with fail
    go_quiet (fail)
    go_wp2_with fail
    obtain ⟨sd', hsd⟩ : ∃ sd', sd' = IntKind.u64.wrap (IntKind.u64.wrap (IntKind.u64.wrap (sd * 6364136223846793005)) + 1442695040888963407) := ⟨_, rfl⟩
    rw [← hsd]
    obtain ⟨hs0, hs1⟩ : 0 ≤ sd' ∧ sd' < 18446744073709551616 := by rw [hsd]; exact wrapU _
    clear hsd
    have g2 : decide ((n : Int) + 1 ≤ (bs.length : Int)) = false := by simp; omega
    have g3 : decide (n + 1 ≤ bs.length) = false := by simp; omega
    go_quiet (fail)
    go_wp2
    go_ret
    refine ⟨_, rfl, (and_bd hs0 hs1).1, (and_bd hs0 hs1).2, ?_⟩
    exact HS0.out.next _ _ _

theorem l00From_any (a : Option Addr) (l c : Nat) (w : World) :
    Calls Tryd.prog 14 #[.slice a l c] w fun e w' => e = .returned (.pointer (some ⟨w.heap.size, 0, none⟩)) ∧ Src w w' w.heap.size (.slice a l c) 0 ∧ w'.heap.size = w.heap.size + 1 := by
  go_enter Tryd.func14, Tryd.ntmps14
  go_wp2
  go_ret
  refine ⟨rfl, ⟨Nat.le_refl _, by simp, by simp [go_sem], by simp [go_sem], ⟨0, by simp [go_sem]⟩, fun o => by simp [go_sem], by (repeat (first | with_reducible exact Below.refl _ _ | with_reducible exact hbw | (with_reducible refine Below.setCell ?_ ?_ _; rotate_left; · first | exact Nat.le_refl _ | omega | (simp; done) | (simp; omega)) | (with_reducible refine Below.alloc ?_ ?_ _; rotate_left; · first | exact Nat.le_refl _ | omega | (simp; done) | (simp; omega)) | with_reducible refine below_drewN ?_ _ | with_reducible refine Below.drew ?_))⟩, by simp⟩

/-- What a choice below k leaves. -/
def Picked (w0 : World) (p n : Nat) (cv : Value) (k : Int) (w : World) (e : Ending) (w' : World) : Prop :=
  ∃ (r : Int) (m : Nat), e = .returned (.int .i64 r) ∧ 0 ≤ r ∧ r < k ∧ n ≤ m ∧ m ≤ n + 2 ∧ Src w0 w' p cv m ∧ Touch p (p + 1) w w'

set_option maxHeartbeats 1000000 in
theorem pick_any (w0 : World) (p n : Nat) (cv : Value) (bs : List Int) (k : Int) (w : World) (h0 : Byts w0 cv bs) (ok : okByts bs) (h : Src w0 w p cv n) (hn : n ≤ 900000000) (k1 : 1 ≤ k) (k2 : k ≤ 1000000) :
    Calls Tryd.prog 27 #[.pointer (some ⟨p, 0, none⟩), .int .i64 k] w (Picked w0 p n cv k w) := by
  by_cases g1 : k ≤ 1
  · have d1 : decide (k ≤ 1) = true := by simpa using g1
    go_enter Tryd.func27, Tryd.ntmps27
    go_wp2
    go_ret
    exact ⟨0, n, rfl, by omega, by omega, by omega, by omega, h, Touch.refl _ _ _⟩
  · have d1 : decide (k ≤ 1) = false := by simpa using g1
    have k0 : ¬ k = 0 := by omega
    have H := Lib.hid h
    clear h
    by_cases g2 : 200 < k
    · have d2 : decide (200 < k) = true := by simpa using g2
      go_enter Tryd.func27, Tryd.ntmps27
      go_wp2_with fail
      refine (next_any w0 p n cv bs _ h0 ok H.out (by omega)).mono ?_
      rintro e w1 ⟨x, rfl, x0, x1, hs1, ht1⟩
      have w1' : IntKind.i64.wrap (x * 256) = x * 256 := IntWalk.i64_in _ (by omega)
      have HS1 := Lib.hid hs1; have HT1 := Lib.hid ht1; clear hs1 ht1
      go_wp2_with fail
      refine (next_any w0 p (n + 1) cv bs _ h0 ok HS1.out (by omega)).mono ?_
      rintro e w2 ⟨y, rfl, y0, y1, hs2, ht2⟩
      have w2' : IntKind.i64.wrap (x * 256 + y) = x * 256 + y := IntWalk.i64_in _ (by omega)
      have e1 := Int.tmod_eq_emod_of_nonneg (b := k) (show 0 ≤ x * 256 + y by omega)
      have r0 := Int.emod_nonneg (x * 256 + y) k0
      have r1 := Int.emod_lt_of_pos (x * 256 + y) (show 0 < k by omega)
      have w3' : IntKind.i64.wrap ((x * 256 + y).tmod k) = (x * 256 + y) % k := by rw [e1]; exact IntWalk.i64_in _ (by omega)
      have w4' : IntKind.i64.wrap ((x * 256 + y) % k) = (x * 256 + y) % k := IntWalk.i64_in _ (by omega)
      have R0 := Lib.hid r0; have R1 := Lib.hid r1; have HS2 := Lib.hid hs2; have HT2 := Lib.hid (HT1.out.trans ht2); clear r0 r1 e1 hs2 ht2
      go_wp2
      go_ret
      exact ⟨_, n + 2, rfl, R0.out, R1.out, by omega, by omega, HS2.out, HT2.out⟩
    · have d2 : decide (200 < k) = false := by simpa using g2
      go_enter Tryd.func27, Tryd.ntmps27
      go_wp2_with fail
      refine (next_any w0 p n cv bs _ h0 ok H.out (by omega)).mono ?_
      rintro e w1 ⟨x, rfl, x0, x1, hs1, ht1⟩
      have e1 := Int.tmod_eq_emod_of_nonneg (b := k) x0
      have r0 := Int.emod_nonneg x k0
      have r1 := Int.emod_lt_of_pos x (show 0 < k by omega)
      have w3' : IntKind.i64.wrap (x.tmod k) = x % k := by rw [e1]; exact IntWalk.i64_in _ (by omega)
      have w4' : IntKind.i64.wrap (x % k) = x % k := IntWalk.i64_in _ (by omega)
      have R0 := Lib.hid r0; have R1 := Lib.hid r1; have HS1 := Lib.hid hs1; have HT1 := Lib.hid ht1; clear r0 r1 e1 hs1 ht1
      go_wp2
      go_ret
      exact ⟨_, n + 1, rfl, R0.out, R1.out, by omega, by omega, HS1.out, HT1.out⟩

/-- v reads as the texts ss. -/
def Strs (w : World) (v : Value) (ss : List ByteArray) : Prop := Sl w v ss.length (ss.map Value.string)

theorem Sl.touchQ {w w' : World} {q m c B E : Nat} {cs : List Value} (h : Sl w (.slice (some ⟨q, 0, none⟩) m c) m cs) (t : Touch B E w w') (hq : q < B ∨ E ≤ q) : Sl w' (.slice (some ⟨q, 0, none⟩) m c) m cs := by
  obtain ⟨a, cap, e, h1, h2, h3⟩ := h
  cases e
  refine ⟨_, _, rfl, h1, h2, fun j u hu => ?_⟩
  obtain ⟨b, off, e, hc⟩ := h3 j u hu
  cases e
  exact ⟨_, _, rfl, cellT t hc hq⟩
theorem owns_touch {w w' : World} {base : Nat} {e : TypeId} {size n : Nat} {v : Value} {cs : List Value} {B E : Nat} (h : w.ownsRow base e size v n cs) (t : Touch B E w w') (hE : E ≤ base) : w'.ownsRow base e size v n cs :=
  ((OwnRow.mk' h).touch t (.inr hE)).1
theorem Src.touch {w0 w w' : World} {p n : Nat} {cv : Value} (h : Src w0 w p cv n) {B E : Nat} (t : Touch B E w w') (hp : p < B ∨ E ≤ p) (hB : w0.heap.size ≤ B) : Src w0 w' p cv n := by
  refine ⟨h.low, Nat.lt_of_lt_of_le h.lt t.size, cellT t h.c0 hp, cellT t h.c1 hp, h.c2.imp fun _ h => cellT t h hp, fun o => ?_, t.below h.below hB h.below.size⟩
  have := t.block p h.lt hp
  have := h.fr o
  unfold World.frozen? at *
  simp only at *
  rw [t.block p h.lt hp]; exact this
theorem froz_touch {B E : Nat} {w w' : World} (h : Touch B E w w') {b o : Nat} {v : Bool} (hp : b < w.heap.size) (ho : b < B ∨ E ≤ b) (hc : w.frozen? ⟨b, o, none⟩ = v) : w'.frozen? ⟨b, o, none⟩ = v := by
  have := h.block b hp ho
  unfold World.frozen? at *
  simp only at *
  rw [this]; exact hc

end Go.Proofs.YteaijhmgfddjiaaDoor
