/- The laws' marks on a slice of actions, in the form that the laws' walks take. -/
import Derived.Test.YtjmapbgbmgaljaaActsM
set_option linter.unusedSimpArgs false
set_option linter.unnecessarySimpa false
set_option linter.unusedVariables false
namespace Go.Proofs.Ytjmapbgbmgaljaa
open Go.RowKit

def MkActs (B E : Nat) (w : World) (v : Value) (x : List ActD) (k : Int) : Prop := OwnActs B E w v (mkActs k.toNat x)
section
variable {B E B' E' : Nat} {w w' : World} {v : Value} {x : List ActD} {k : Int}
theorem MkActs.mono (h : MkActs B E w v x k) (hb : Below w.heap.size w w') : MkActs B E w' v x k := OwnActs.mono h hb
theorem MkActs.touch (h : MkActs B E w v x k) (t : Touch B' E' w w') (hd : E ≤ B' ∨ E' ≤ B) : MkActs B E w' v x k := OwnActs.touch h t hd
end
theorem markActsK (B E : Nat) (v : Value) (x : List ActD) (k : Int) (w : World) (h : OwnActs B E w v x) (h0 : 0 ≤ k) (hk : k + sizeActs x ≤ 1000000000) :
    Calls Try.prog 47 #[v, .int .i64 k] w fun e w' => e = .returned (.int .i64 (k + sizeActs x)) ∧ MkActs B E w' v x k ∧ Touch B E w w' := by
  obtain ⟨j, rfl⟩ := Int.eq_ofNat_of_zero_le h0
  exact (markActs_any B E v x j w h (by omega)).mono fun e w' ⟨he, ho, ht⟩ => ⟨by rw [he]; rfl, ho, ht⟩
theorem heldActsK (B E : Nat) (v : Value) (x : List ActD) (k : Int) (w : World) (h : MkActs B E w v x k) (h0 : 0 ≤ k) (hk : k + sizeActs x ≤ 1000000000) :
    Calls Try.prog 51 #[v, .int .i64 k] w fun e w' => e = .returned (.int .i64 (k + sizeActs x)) ∧ Below w.heap.size w w' := by
  obtain ⟨j, rfl⟩ := Int.eq_ofNat_of_zero_le h0
  exact (heldActs_any v x j w h.rd (by omega)).mono fun e w' ⟨he, hb⟩ => ⟨by rw [he]; rfl, hb⟩

end Go.Proofs.Ytjmapbgbmgaljaa
