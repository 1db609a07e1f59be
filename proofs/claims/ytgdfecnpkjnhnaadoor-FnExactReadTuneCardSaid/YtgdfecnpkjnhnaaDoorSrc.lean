/- The reference's source of choices: contracts of l00From, next, pick, one, among, text. -/
import Derived.Test.YtgdfecnpkjnhnaaDoorByts
import Derived.Test.YtgdfecnpkjnhnaaDoorApp
import Derived.Test.YtgdfecnpkjnhnaaDoorKInts
import Derived.Test.YtgdfecnpkjnhnaaDoorReg3
import Derived.IntWalk
import Derived.Deep.QuietTactic
import Derived.BigQuiet
import Derived.Laws.Bits64b
set_option linter.unusedSimpArgs false
set_option linter.unnecessarySimpa false
set_option linter.unusedVariables false
set_option maxRecDepth 100000
namespace Go.Proofs.YtgdfecnpkjnhnaaDoor
open Go.RowKit

/-- The source at block p reads bytes that came in (world w0), and has read n of them. -/
structure Src (w0 w : World) (p : Nat) (cv : Value) (n : Nat) : Prop where
  low : w0.heap.size ≤ p
  lt : p < w.heap.size
  c0 : w.cell? ⟨p, 0, none⟩ = some cv
  c1 : w.cell? ⟨p, 1, none⟩ = some (.int .i64 (n : Int))
  c2 : ∃ s : Int, w.cell? ⟨p, 2, none⟩ = some (.int .u64 s)
  fr : ∀ o, w.frozen? ⟨p, o, none⟩ = false
  below : Below w0.heap.size w0 w
theorem Src.mono {w0 w w' : World} {p n : Nat} {cv : Value} (h : Src w0 w p cv n) (hb : Below w.heap.size w w') : Src w0 w' p cv n :=
  ⟨h.low, Nat.lt_of_lt_of_le h.lt hb.size, cellB hb h.c0, cellB hb h.c1, h.c2.imp fun _ h => cellB hb h, fun o => frozenL hb h.lt (h.fr o), h.below.trans (hb.mono h.below.size)⟩
theorem Src.step {w0 w w' : World} {p n : Nat} {cv : Value} (h : Src w0 w p cv n) {B : Nat} (hB : p < B) (hb : Below B w w') : Src w0 w' p cv n :=
  ⟨h.low, Nat.lt_of_lt_of_le h.lt hb.size, cellL hb hB h.c0, cellL hb hB h.c1, h.c2.imp fun _ h => cellL hb hB h, fun o => frozenL hb hB (h.fr o), h.below.trans ⟨hb.os, hb.tape, hb.output, hb.size, fun k hk => hb.block k (by have := h.low; omega)⟩⟩

theorem wrapU (x : Int) : 0 ≤ IntKind.u64.wrap x ∧ IntKind.u64.wrap x < 18446744073709551616 := by
  simp [IntKind.wrap, IntKind.signed, IntKind.bits]; omega
theorem and_bd {s : Int} (h0 : 0 ≤ s) (h1 : s < 18446744073709551616) : 0 ≤ wrap64 (bits .and .u64 (s / 1099511627776) 255) ∧ wrap64 (bits .and .u64 (s / 1099511627776) 255) ≤ 255 := by
  obtain ⟨n, hn⟩ : ∃ n : Nat, s / 1099511627776 = (n : Int) := ⟨(s / 1099511627776).toNat, by omega⟩
  have hb : n < 18446744073709551616 := by omega
  have e := bits_and_u64_nat n 255 hb (by omega)
  rw [hn, show (255 : Int) = ((255 : Nat) : Int) from rfl, e]
  have := Nat.and_le_right (n := n) (m := 255)
  unfold wrap64
  omega
theorem Src.next {w0 w : World} {p n : Nat} {cv : Value} (h : Src w0 w p cv n) (a b : Nat) (s : Int) :
    Src w0 ((((w.drewN a).setCell ⟨p, 1, none⟩ (.int .i64 ((n : Int) + 1))).setCell ⟨p, 2, none⟩ (.int .u64 s)).drewN b) p cv (n + 1) ∧ Touch p (p + 1) w ((((w.drewN a).setCell ⟨p, 1, none⟩ (.int .i64 ((n : Int) + 1))).setCell ⟨p, 2, none⟩ (.int .u64 s)).drewN b) := by
  obtain ⟨low, lt, c0, c1, ⟨sd, c2⟩, fr, below⟩ := h
  have f1 := fr 1
  have f2 := fr 2
  have hT : Touch p (p + 1) w ((((w.drewN a).setCell ⟨p, 1, none⟩ (.int .i64 ((n : Int) + 1))).setCell ⟨p, 2, none⟩ (.int .u64 s)).drewN b) :=
    ((((Touch.refl p (p + 1) w).drewN a).setCell (by simp) _).setCell (by simp) _).drewN b
  refine ⟨⟨low, Nat.lt_of_lt_of_le lt hT.size, ?_, ?_, ⟨s, ?_⟩, fun o => ?_, hT.below below low below.size⟩, hT⟩
  · simp [go_sem, c0, lt, f1, f2]
  · simp [go_sem, c1, lt, f1, f2]
  · simp [go_sem, c2, lt, f1, f2]
  · have := fr o
    simp [go_sem, lt, f1, f2, this]

/-- What a choice below k leaves. -/
def Picked (w0 : World) (p n : Nat) (cv : Value) (k : Int) (w : World) (e : Ending) (w' : World) : Prop :=
  ∃ (r : Int) (m : Nat), e = .returned (.int .i64 r) ∧ 0 ≤ r ∧ r < k ∧ n ≤ m ∧ m ≤ n + 2 ∧ Src w0 w' p cv m ∧ Touch p (p + 1) w w'

/-- v reads as the texts ss. -/
def Strs (w : World) (v : Value) (ss : List ByteArray) : Prop := Sl w v ss.length (ss.map Value.string)

theorem Sl.touchQ {w w' : World} {q m c B E : Nat} {cs : List Value} (h : Sl w (.slice (some ⟨q, 0, none⟩) m c) m cs) (t : Touch B E w w') (hq : q < B ∨ E ≤ q) : Sl w' (.slice (some ⟨q, 0, none⟩) m c) m cs := by
  obtain ⟨a, cap, e, h1, h2, h3⟩ := h
  cases e
  refine ⟨_, _, rfl, h1, h2, fun j u hu => ?_⟩
  obtain ⟨b, off, e, hc⟩ := h3 j u hu
  cases e
  exact ⟨_, _, rfl, cellT t hc hq⟩
theorem owns_touch {w w' : World} {base : Nat} {e : TypeId} {size n : Nat} {v : Value} {cs : List Value} {B E : Nat} (h : w.ownsRow base e size v n cs) (t : Touch B E w w') (hE : E ≤ base) : w'.ownsRow base e size v n cs :=
  ((OwnRow.mk' h).touch t (.inr hE)).1
theorem Src.touch {w0 w w' : World} {p n : Nat} {cv : Value} (h : Src w0 w p cv n) {B E : Nat} (t : Touch B E w w') (hp : p < B ∨ E ≤ p) (hB : w0.heap.size ≤ B) : Src w0 w' p cv n := by
  refine ⟨h.low, Nat.lt_of_lt_of_le h.lt t.size, cellT t h.c0 hp, cellT t h.c1 hp, h.c2.imp fun _ h => cellT t h hp, fun o => ?_, t.below h.below hB h.below.size⟩
  have := t.block p h.lt hp
  have := h.fr o
  unfold World.frozen? at *
  simp only at *
  rw [t.block p h.lt hp]; exact this
theorem froz_touch {B E : Nat} {w w' : World} (h : Touch B E w w') {b o : Nat} {v : Bool} (hp : b < w.heap.size) (ho : b < B ∨ E ≤ b) (hc : w.frozen? ⟨b, o, none⟩ = v) : w'.frozen? ⟨b, o, none⟩ = v := by
  have := h.block b hp ho
  unfold World.frozen? at *
  simp only at *
  rw [this]; exact hc

end Go.Proofs.YtgdfecnpkjnhnaaDoor
