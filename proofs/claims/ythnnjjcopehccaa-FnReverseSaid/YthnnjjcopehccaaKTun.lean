/- The laws' helpers over one tune, in the form that the laws' walks take. -/
import Derived.Test.YthnnjjcopehccaaKey
import Derived.Test.YthnnjjcopehccaaTun
set_option linter.unusedSimpArgs false
set_option linter.unnecessarySimpa false
set_option linter.unusedVariables false
namespace Go.Proofs.Ythnnjjcopehccaa
open Go.RowKit

def RdTun (w : World) (v : Value) (x : TunD) : Prop := ∃ lv, Tun w v lv x
def OwnTun (B E : Nat) (w : World) (v : Value) (x : TunD) : Prop := ∃ lv, v = .agg #[.string x.name, lv] ∧ OwnRow B E w 30 3 lv x.tones.length (x.tones.flatMap Ton.cells)
def MkTun (B E : Nat) (w : World) (v : Value) (x : TunD) (k : Int) : Prop := ∃ lv, v = .agg #[.string x.name, lv] ∧ OwnRow B E w 30 3 lv x.tones.length (marksI k (x.tones.length * 3))
section
variable {B E B' E' : Nat} {w w' : World} {v : Value} {x : TunD} {k : Int}
theorem RdTun.mono (h : RdTun w v x) (hb : Below w.heap.size w w') : RdTun w' v x := h.imp fun _ h => h.mono hb
theorem OwnTun.mono (h : OwnTun B E w v x) (hb : Below w.heap.size w w') : OwnTun B E w' v x := h.imp fun _ h => ⟨h.1, h.2.mono hb⟩
theorem OwnTun.touch (h : OwnTun B E w v x) (t : Touch B' E' w w') (hd : E ≤ B' ∨ E' ≤ B) : OwnTun B E w' v x := h.imp fun _ h => ⟨h.1, h.2.touch t hd⟩
theorem OwnTun.rd (h : OwnTun B E w v x) : RdTun w v x := h.imp fun _ h => ⟨h.1, h.2.sl⟩
theorem OwnTun.form (h : OwnTun B E w v x) : ∃ a cap, v = .agg #[.string x.name, .slice a x.tones.length cap] := by
  obtain ⟨lv, rfl, h⟩ := h
  obtain ⟨a, cap, rfl⟩ := h.form
  exact ⟨a, cap, rfl⟩
theorem OwnTun.wide (h : OwnTun B E w v x) (hB : B' ≤ B) (hE : E ≤ E') : OwnTun B' E' w v x := h.imp fun _ h => ⟨h.1, h.2.wide hB hE⟩
theorem MkTun.mono (h : MkTun B E w v x k) (hb : Below w.heap.size w w') : MkTun B E w' v x k := h.imp fun _ h => ⟨h.1, h.2.mono hb⟩
theorem MkTun.touch (h : MkTun B E w v x k) (t : Touch B' E' w w') (hd : E ≤ B' ∨ E' ≤ B) : MkTun B E w' v x k := h.imp fun _ h => ⟨h.1, h.2.touch t hd⟩
end

end Go.Proofs.Ythnnjjcopehccaa
