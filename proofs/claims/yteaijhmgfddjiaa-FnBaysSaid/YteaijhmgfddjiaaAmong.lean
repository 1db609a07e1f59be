/- A written list, and one of it drawn; rows that a store does not reach. -/
import Derived.Test.YteaijhmgfddjiaaBox
import Derived.Test.YteaijhmgfddjiaaRegT
set_option linter.unusedSimpArgs false
set_option linter.unnecessarySimpa false
set_option linter.unusedVariables false
set_option maxRecDepth 100000
namespace Go.Proofs.Yteaijhmgfddjiaa
open Go.RowKit

/-- A list of numbers as written, then among it. -/
theorem among_lit (w0 : World) (p n : Nat) (cv : Value) (bs : List Int) (xs : List Int) (k H : Nat) (w : World) (h0 : Byts w0 cv bs) (ok : okByts bs) (h : Src w0 w p cv n) (hn : n ≤ 900000000) (hH : w.heap.size = H) (hk : xs.length = k) (hl : 1 ≤ xs.length) (hl2 : xs.length ≤ 1000) :
    Calls Try.prog 41 #[.pointer (some ⟨p, 0, none⟩), .slice (some ⟨H, 0, none⟩) k k] (w.alloc (.cells (xs.map (Value.int .i64)).toArray 2)) fun e w' => ∃ (r : Int) (m : Nat), e = .returned (.int .i64 r) ∧ r ∈ xs ∧ n ≤ m ∧ m ≤ n + 2 ∧ Src w0 w' p cv m ∧ Touch p (p + 1) w w' := by
  subst hk
  have S0 : Sl (w.alloc (.cells (xs.map (Value.int .i64)).toArray 2)) (.slice (some ⟨H, 0, none⟩) xs.length xs.length) xs.length (xs.map (Value.int .i64)) := sl_lit w _ _ _ _ hH (by unfold maxLen; omega)
  have hp := h.lt
  refine (among_any w0 p n cv bs _ xs _ h0 ok (h.mono (belowA _ _)) hn S0 hl hl2 (fun w' t => S0.touchQ t (.inr (by omega)))).mono ?_
  rintro e w' ⟨r, m, rfl, h1, h2, h3, h4, h5⟩
  exact ⟨r, m, rfl, h1, h2, h3, h4, ((Touch.refl _ _ _).alloc _).trans h5⟩

theorem owns_ne {w : World} {base : Nat} {e : TypeId} {size n : Nat} {v : Value} {cs : List Value} (h : w.ownsRow base e size v n cs) {b o : Nat} (hb : ∀ q, v.ownBlock = some q → q ≠ b) (u : Value) : (w.setCell ⟨b, o, none⟩ u).ownsRow base e size v n cs := by
  refine ⟨h.1, ?_⟩
  rcases h.2 with h2 | ⟨g, cap, cur, rfl, x1, x2, x3⟩
  · exact .inl h2
  · have hg : g ≠ b := hb g rfl
    exact .inr ⟨g, cap, cur, rfl, x1, (Below.heap_setCell _ _ _ _ (by simpa using hg)).trans x2, x3⟩

end Go.Proofs.Yteaijhmgfddjiaa
