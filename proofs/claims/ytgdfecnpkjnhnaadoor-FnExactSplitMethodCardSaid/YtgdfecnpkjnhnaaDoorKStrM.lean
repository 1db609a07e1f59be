/- The laws' marks over rows of texts, in the form that the laws' walks take. -/
import Derived.Test.YtgdfecnpkjnhnaaDoorMethV
import Derived.Test.YtgdfecnpkjnhnaaDoorStrM
set_option linter.unusedSimpArgs false
set_option linter.unnecessarySimpa false
set_option linter.unusedVariables false
namespace Go.Proofs.YtgdfecnpkjnhnaaDoor
open Go.RowKit

def MkStrs (B E : Nat) (w : World) (v : Value) (xs : List (List UInt8)) (k : Int) : Prop := OwnRow B E w 9 1 v xs.length (strMk k.toNat (xs.length * 1))
section
variable {B E B' E' : Nat} {w w' : World} {v : Value} {xs : List (List UInt8)} {k : Int}
theorem MkStrs.mono (h : MkStrs B E w v xs k) (hb : Below w.heap.size w w') : MkStrs B E w' v xs k := OwnRow.mono h hb
theorem MkStrs.touch (h : MkStrs B E w v xs k) (t : Touch B' E' w w') (hd : E ≤ B' ∨ E' ≤ B) : MkStrs B E w' v xs k := OwnRow.touch h t hd
end
theorem eqStrsK (v1 v2 : Value) (xs : List (List UInt8)) (w : World) (h1 : RdStrs w v1 xs) (h2 : RdStrs w v2 xs) :
    Calls Tryd.prog 9 #[v1, v2] w fun e w' => e = .returned (.bool true) ∧ Below w.heap.size w w' :=
  (eqStrs_any v1 v2 xs w h1 h2).mono fun e w' ⟨he, hq⟩ => ⟨he, hq.below _⟩
theorem markStrsK (B E : Nat) (v : Value) (xs : List (List UInt8)) (k : Int) (w : World) (h : OwnStrs B E w v xs) (h0 : 1 ≤ k) (hk : k + xs.length * 1 ≤ 1000000000) :
    Calls Tryd.prog 10 #[v, .int .i64 k] w fun e w' => e = .returned (.int .i64 (k + xs.length * 1)) ∧ MkStrs B E w' v xs k ∧ Touch B E w w' := by
  obtain ⟨j, rfl⟩ := Int.eq_ofNat_of_zero_le (show 0 ≤ k by omega)
  refine (markStrs_any v xs.length B _ _ j w h.1 (by omega) (by omega)).mono fun e w' ⟨he, ho, hg⟩ => ⟨by rw [he]; congr 2 <;> omega, ⟨by simpa using ho, h.2⟩, Touch.of_grown hg fun k hk => ⟨(h.1.lt k hk).1, h.2 k hk⟩⟩
theorem heldStrsK (B E : Nat) (v : Value) (xs : List (List UInt8)) (k : Int) (w : World) (h : MkStrs B E w v xs k) (h0 : 1 ≤ k) (hk : k + xs.length * 1 ≤ 1000000000) :
    Calls Tryd.prog 11 #[v, .int .i64 k] w fun e w' => e = .returned (.int .i64 (k + xs.length * 1)) ∧ Below w.heap.size w w' := by
  obtain ⟨j, rfl⟩ := Int.eq_ofNat_of_zero_le (show 0 ≤ k by omega)
  exact (heldStrs_any v xs.length j w (by have := OwnRow.sl h; simpa using this) (by omega) (by omega)).mono fun e w' ⟨he, hb⟩ => ⟨by rw [he]; congr 2 <;> omega, hb⟩

end Go.Proofs.YtgdfecnpkjnhnaaDoor
