/- The laws' helpers over one action, in the form that the laws' walks take. -/
import Derived.Test.YtijhlllajddlpaaDoorKey
import Derived.Test.YtijhlllajddlpaaDoorAct
set_option linter.unusedSimpArgs false
set_option linter.unnecessarySimpa false
set_option linter.unusedVariables false
namespace Go.Proofs.YtijhlllajddlpaaDoor
open Go.RowKit

def RdAct (w : World) (v : Value) (x : ActD) : Prop := ∃ lv, Acc w v lv x
def OwnAct (B E : Nat) (w : World) (v : Value) (x : ActD) : Prop := ∃ lv, v = .agg #[.int .i64 x.note, lv, .int .i64 x.slack, .int .i64 x.weight] ∧ OwnRow B E w 54 2 lv x.levs.length (x.levs.flatMap Lev.cells)
def MkAct (B E : Nat) (w : World) (v : Value) (x : ActD) (k : Int) : Prop := ∃ lv, v = .agg #[.int .i64 x.note, lv, .int .i64 x.slack, .int .i64 x.weight] ∧ OwnRow B E w 54 2 lv x.levs.length (marksI k (x.levs.length * 2))
section
variable {B E B' E' : Nat} {w w' : World} {v : Value} {x : ActD} {k : Int}
theorem RdAct.mono (h : RdAct w v x) (hb : Below w.heap.size w w') : RdAct w' v x := h.imp fun _ h => h.mono hb
theorem OwnAct.mono (h : OwnAct B E w v x) (hb : Below w.heap.size w w') : OwnAct B E w' v x := h.imp fun _ h => ⟨h.1, h.2.mono hb⟩
theorem OwnAct.touch (h : OwnAct B E w v x) (t : Touch B' E' w w') (hd : E ≤ B' ∨ E' ≤ B) : OwnAct B E w' v x := h.imp fun _ h => ⟨h.1, h.2.touch t hd⟩
theorem OwnAct.rd (h : OwnAct B E w v x) : RdAct w v x := h.imp fun _ h => ⟨h.1, h.2.sl⟩
theorem OwnAct.form (h : OwnAct B E w v x) : ∃ a cap, v = .agg #[.int .i64 x.note, .slice a x.levs.length cap, .int .i64 x.slack, .int .i64 x.weight] := by
  obtain ⟨lv, rfl, h⟩ := h
  obtain ⟨a, cap, rfl⟩ := h.form
  exact ⟨a, cap, rfl⟩
theorem OwnAct.wide (h : OwnAct B E w v x) (hB : B' ≤ B) (hE : E ≤ E') : OwnAct B' E' w v x := h.imp fun _ h => ⟨h.1, h.2.wide hB hE⟩
theorem MkAct.mono (h : MkAct B E w v x k) (hb : Below w.heap.size w w') : MkAct B E w' v x k := h.imp fun _ h => ⟨h.1, h.2.mono hb⟩
theorem MkAct.touch (h : MkAct B E w v x k) (t : Touch B' E' w w') (hd : E ≤ B' ∨ E' ≤ B) : MkAct B E w' v x k := h.imp fun _ h => ⟨h.1, h.2.touch t hd⟩
end

theorem toActK (v : Value) (x : ActD) (w : World) (h : RdAct w v x) (hs : x.levs.length ≤ 1048576) :
    Calls Tryd.prog 8 #[v] w fun e w' => ∃ v', e = .returned v' ∧ OwnAct w.heap.size w'.heap.size w' v' x ∧ Below w.heap.size w w' := by
  obtain ⟨lv, h⟩ := h
  exact (toAct_any v lv x w h hs).mono fun e w' ⟨lv', he, ho, hb⟩ => ⟨_, he, ⟨lv', rfl, OwnRow.mk' ho⟩, hb⟩
theorem eqActK (v1 v2 : Value) (x : ActD) (w : World) (h1 : RdAct w v1 x) (h2 : RdAct w v2 x) :
    Calls Tryd.prog 10 #[v1, v2] w fun e w' => e = .returned (.bool true) ∧ Below w.heap.size w w' := by
  obtain ⟨l1, h1⟩ := h1
  obtain ⟨l2, h2⟩ := h2
  exact (eqAct_any v1 l1 v2 l2 x x w h1 h2).mono fun e w' ⟨he, hb⟩ => ⟨by rw [he]; simp, hb⟩
theorem markActK (B E : Nat) (v : Value) (x : ActD) (k : Int) (w : World) (h : OwnAct B E w v x) (h0 : 0 ≤ k) (hk : k + x.levs.length * 2 ≤ 1000000000) :
    Calls Tryd.prog 13 #[v, .int .i64 k] w fun e w' => e = .returned (.int .i64 (k + x.levs.length * 2)) ∧ MkAct B E w' v x k ∧ Touch B E w w' := by
  obtain ⟨j, rfl⟩ := Int.eq_ofNat_of_zero_le h0
  obtain ⟨lv, rfl, h⟩ := h
  refine (markAct_any lv x x.levs.length B j _ _ w h.1 (by omega)).mono fun e w' ⟨he, ho, hg⟩ => ⟨by rw [he]; congr 2 <;> omega, ⟨lv, rfl, by rw [marksI_nat]; exact ho, h.2⟩, Touch.of_grown hg fun k hk => ⟨(h.1.lt k hk).1, h.2 k hk⟩⟩
theorem heldActK (B E : Nat) (v : Value) (x : ActD) (k : Int) (w : World) (h : MkAct B E w v x k) (h0 : 0 ≤ k) (hk : k + x.levs.length * 2 ≤ 1000000000) :
    Calls Tryd.prog 14 #[v, .int .i64 k] w fun e w' => e = .returned (.int .i64 (k + x.levs.length * 2)) ∧ Below w.heap.size w w' := by
  obtain ⟨j, rfl⟩ := Int.eq_ofNat_of_zero_le h0
  obtain ⟨lv, rfl, h⟩ := h
  refine (heldAct_any lv x x.levs.length j w (by rw [← marksI_nat]; exact OwnRow.sl h) (by omega)).mono fun e w' ⟨he, hb⟩ => ⟨by rw [he]; congr 2 <;> omega, hb⟩

end Go.Proofs.YtijhlllajddlpaaDoor
