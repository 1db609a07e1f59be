/- The laws' helpers over slices of numbers, in the form that the laws' walks take. -/
import Derived.Test.YteaijhmgfddjiaaDoorKey
import Derived.Test.YteaijhmgfddjiaaDoorInfo
set_option linter.unusedSimpArgs false
set_option linter.unnecessarySimpa false
set_option linter.unusedVariables false
namespace Go.Proofs.YteaijhmgfddjiaaDoor
open Go.RowKit

def RdInts (w : World) (v : Value) (xs : List Int) : Prop := Ints w v xs
def OwnInts (B E : Nat) (w : World) (v : Value) (xs : List Int) : Prop := OwnRow B E w 2 1 v xs.length (xs.map (Value.int .i64))
def MkInts (B E : Nat) (w : World) (v : Value) (xs : List Int) (k : Int) : Prop := OwnRow B E w 2 1 v xs.length (marksI k (xs.length * 1))
section
variable {B E B' E' : Nat} {w w' : World} {v : Value} {xs : List Int} {k : Int}
theorem RdInts.mono (h : RdInts w v xs) (hb : Below w.heap.size w w') : RdInts w' v xs := Ints.mono h hb
theorem OwnInts.mono (h : OwnInts B E w v xs) (hb : Below w.heap.size w w') : OwnInts B E w' v xs := OwnRow.mono h hb
theorem OwnInts.touch (h : OwnInts B E w v xs) (t : Touch B' E' w w') (hd : E ≤ B' ∨ E' ≤ B) : OwnInts B E w' v xs := OwnRow.touch h t hd
theorem OwnInts.rd (h : OwnInts B E w v xs) : RdInts w v xs := OwnRow.sl h
theorem OwnInts.form (h : OwnInts B E w v xs) : ∃ a cap, v = .slice a xs.length cap := OwnRow.form h
theorem OwnInts.wide (h : OwnInts B E w v xs) (hB : B' ≤ B) (hE : E ≤ E') : OwnInts B' E' w v xs := OwnRow.wide h hB hE
theorem OwnInts.nil (B E : Nat) (w : World) : OwnInts B E w (.slice none 0 0) [] := ⟨World.ownsRow_nil _ _ _ _, fun k hk => by simp [Value.ownBlock] at hk⟩
theorem OwnInts.mk' (h : w.ownsRow B 2 1 v xs.length (xs.map (Value.int .i64))) : OwnInts B w.heap.size w v xs := OwnRow.mk' h
theorem MkInts.mono (h : MkInts B E w v xs k) (hb : Below w.heap.size w w') : MkInts B E w' v xs k := OwnRow.mono h hb
theorem MkInts.touch (h : MkInts B E w v xs k) (t : Touch B' E' w w') (hd : E ≤ B' ∨ E' ≤ B) : MkInts B E w' v xs k := OwnRow.touch h t hd
end

end Go.Proofs.YteaijhmgfddjiaaDoor
