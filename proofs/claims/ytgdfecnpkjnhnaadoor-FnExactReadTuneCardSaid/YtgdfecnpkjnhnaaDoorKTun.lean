/- The laws' helpers over one tune, in the form that the laws' walks take. -/
import Derived.Test.YtgdfecnpkjnhnaaDoorKey
import Derived.Test.YtgdfecnpkjnhnaaDoorTun
set_option linter.unusedSimpArgs false
set_option linter.unnecessarySimpa false
set_option linter.unusedVariables false
namespace Go.Proofs.YtgdfecnpkjnhnaaDoor
open Go.RowKit

def RdTun (w : World) (v : Value) (x : TunD) : Prop := ∃ lv, Tun w v lv x
def OwnTun (B E : Nat) (w : World) (v : Value) (x : TunD) : Prop := ∃ lv, v = .agg #[.string x.name, lv] ∧ OwnRow B E w 59 3 lv x.tones.length (x.tones.flatMap Ton.cells)
def MkTun (B E : Nat) (w : World) (v : Value) (x : TunD) (k : Int) : Prop := ∃ lv, v = .agg #[.string x.name, lv] ∧ OwnRow B E w 59 3 lv x.tones.length (marksI k (x.tones.length * 3))
section
variable {B E B' E' : Nat} {w w' : World} {v : Value} {x : TunD} {k : Int}
theorem RdTun.mono (h : RdTun w v x) (hb : Below w.heap.size w w') : RdTun w' v x := h.imp fun _ h => h.mono hb
theorem OwnTun.mono (h : OwnTun B E w v x) (hb : Below w.heap.size w w') : OwnTun B E w' v x := h.imp fun _ h => ⟨h.1, h.2.mono hb⟩
theorem OwnTun.touch (h : OwnTun B E w v x) (t : Touch B' E' w w') (hd : E ≤ B' ∨ E' ≤ B) : OwnTun B E w' v x := h.imp fun _ h => ⟨h.1, h.2.touch t hd⟩
theorem OwnTun.rd (h : OwnTun B E w v x) : RdTun w v x := h.imp fun _ h => ⟨h.1, h.2.sl⟩
theorem OwnTun.form (h : OwnTun B E w v x) : ∃ a cap, v = .agg #[.string x.name, .slice a x.tones.length cap] := by
  obtain ⟨lv, rfl, h⟩ := h
  obtain ⟨a, cap, rfl⟩ := h.form
  exact ⟨a, cap, rfl⟩
theorem OwnTun.wide (h : OwnTun B E w v x) (hB : B' ≤ B) (hE : E ≤ E') : OwnTun B' E' w v x := h.imp fun _ h => ⟨h.1, h.2.wide hB hE⟩
theorem MkTun.mono (h : MkTun B E w v x k) (hb : Below w.heap.size w w') : MkTun B E w' v x k := h.imp fun _ h => ⟨h.1, h.2.mono hb⟩
theorem MkTun.touch (h : MkTun B E w v x k) (t : Touch B' E' w w') (hd : E ≤ B' ∨ E' ≤ B) : MkTun B E w' v x k := h.imp fun _ h => ⟨h.1, h.2.touch t hd⟩
end

theorem toTunK (v : Value) (x : TunD) (w : World) (h : RdTun w v x) (hs : x.tones.length ≤ 1048576) :
    Calls Tryd.prog 14 #[v] w fun e w' => ∃ v', e = .returned v' ∧ OwnTun w.heap.size w'.heap.size w' v' x ∧ Below w.heap.size w w' := by
  obtain ⟨lv, h⟩ := h
  exact (toTun_any v lv x w h hs).mono fun e w' ⟨lv', he, ho, hb⟩ => ⟨_, he, ⟨lv', rfl, OwnRow.mk' ho⟩, hb⟩
theorem eqTunK (v1 v2 : Value) (x : TunD) (w : World) (h1 : RdTun w v1 x) (h2 : RdTun w v2 x) :
    Calls Tryd.prog 16 #[v1, v2] w fun e w' => e = .returned (.bool true) ∧ Below w.heap.size w w' := by
  obtain ⟨l1, h1⟩ := h1
  obtain ⟨l2, h2⟩ := h2
  exact (eqTun_any v1 l1 v2 l2 x x w h1 h2).mono fun e w' ⟨he, hb⟩ => ⟨by rw [he]; simp, hb⟩
theorem markTunK (B E : Nat) (v : Value) (x : TunD) (k : Int) (w : World) (h : OwnTun B E w v x) (h0 : 0 ≤ k) (hk : k + x.tones.length * 3 ≤ 1000000000) :
    Calls Tryd.prog 24 #[v, .int .i64 k] w fun e w' => e = .returned (.int .i64 (k + x.tones.length * 3)) ∧ MkTun B E w' v x k ∧ Touch B E w w' := by
  obtain ⟨j, rfl⟩ := Int.eq_ofNat_of_zero_le h0
  obtain ⟨lv, rfl, h⟩ := h
  refine (markTun_any lv x.name x.tones.length B j _ _ w h.1 (by omega)).mono fun e w' ⟨he, ho, hg⟩ => ⟨by rw [he]; congr 2 <;> omega, ⟨lv, rfl, by rw [marksI_nat]; exact ho, h.2⟩, Touch.of_grown hg fun k hk => ⟨(h.1.lt k hk).1, h.2 k hk⟩⟩
theorem heldTunK (B E : Nat) (v : Value) (x : TunD) (k : Int) (w : World) (h : MkTun B E w v x k) (h0 : 0 ≤ k) (hk : k + x.tones.length * 3 ≤ 1000000000) :
    Calls Tryd.prog 25 #[v, .int .i64 k] w fun e w' => e = .returned (.int .i64 (k + x.tones.length * 3)) ∧ Below w.heap.size w w' := by
  obtain ⟨j, rfl⟩ := Int.eq_ofNat_of_zero_le h0
  obtain ⟨lv, rfl, h⟩ := h
  refine (heldTun_any lv x.name x.tones.length j w (by rw [← marksI_nat]; exact OwnRow.sl h) (by omega)).mono fun e w' ⟨he, hb⟩ => ⟨by rw [he]; congr 2 <;> omega, hb⟩

end Go.Proofs.YtgdfecnpkjnhnaaDoor
