/- How an argument that is a slice of slices of numbers is opened. -/
import Derived.Test.YtadnejajbdipoaaFrame
import Derived.Test.YtadnejajbdipoaaOpen
import Derived.Test.YtadnejajbdipoaaIntss
set_option linter.unusedSimpArgs false
set_option linter.unnecessarySimpa false
set_option linter.unusedVariables false
set_option maxRecDepth 100000
namespace Go.Proofs.Ytadnejajbdipoaa
open Go.ChangeShapes Go.WideShapes Go.ChangeAt Go.RowKit Go.Deep

section
variable {H : Type} {enc : TypeId × Value → H} {W : World} {base : Nat}
theorem cells_ints : Try.prog.cellsOf 24 = 1 := by kernel_rfl

theorem one_ints (n : Nat) (cs : List Value) (y : DataW H × List MemPlace) (h : DataW.trod enc Try.prog W 0 (fun _ => true) true n 24 cs = some y) :
    ∃ x : Value × List Int, cs = [x.1] ∧ (Ints W x.1 x.2 ∧ ∀ k ∈ x.2, I64 k) := by
  rcases open_ints Try.underlying24 Try.underlying2 cells_int h with ⟨hcs, hx⟩ | ⟨a, len', cap', zs, hcs, _, hl, hm, hz, hx, hcell, hwz⟩
  · exact ⟨(.slice none 0 0, []), hcs, ⟨none, 0, rfl, Nat.le_refl _, by simp [maxLen], fun j u hu => by simp at hu⟩, by simp⟩
  · simp only [if_true] at hz
    refine ⟨(.slice (some a) len' cap', zs.take len'), hcs, ⟨some a, cap', by rw [List.length_take, Nat.min_eq_left (by omega)], by rw [List.length_take]; omega, hm, fun j u hu => ?_⟩, fun x hx => hwz x (List.mem_of_mem_take hx)⟩
    have hj : j < len' := by have := (List.getElem?_eq_some_iff.1 hu).1; simp at this; omega
    have hc := hcell j (by omega)
    obtain ⟨b, off, spot⟩ := a
    have hspot : spot = none := by simpa [Addr.add] using World.cell?_spot (hcell 0 (by omega))
    subst hspot
    refine ⟨b, off, rfl, ?_⟩
    rw [add_plain] at hc
    rw [hc, ← hu]
    simp [List.getElem?_take, hj, show j < zs.length by omega]

theorem flat_one (ys : List (Value × List Int)) : (ys.flatMap fun y => [y.1]) = ys.map Prod.fst := by
  induction ys with
  | nil => rfl
  | cons y ys ih => rw [List.flatMap_cons, ih]; rfl

theorem open_arg_intss {v : Value} {d : DataW H} {p : List MemPlace} (hv : Value.okWide Try.prog W .any base 32 v) (h : DataW.Trod enc Try.prog W 0 (fun _ => true) true 32 v d p) :
    ∃ x : List (List Int), RdIntss W v x ∧ okIntss x := by
  obtain ⟨a0, len, cap, rfl⟩ := okWide_slice Try.underlying32 hv
  obtain ⟨fuel, hf⟩ := h
  obtain ⟨ys, hx, hr⟩ := open_structs (fun y : Value × List Int => [y.1]) (fun y => Ints W y.1 y.2 ∧ ∀ k ∈ y.2, I64 k) 1 (by omega) (fun _ => rfl) Try.underlying32 cells_ints one_ints hf
  rw [flat_one] at hx
  exact ⟨ys.map Prod.snd, ⟨ys, rfl, hx, fun y hy => (hr y hy).1⟩, fun x hx => by obtain ⟨y, hy, rfl⟩ := List.mem_map.1 hx; exact (hr y hy).2⟩
end
end Go.Proofs.Ytadnejajbdipoaa
