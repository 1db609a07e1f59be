/- Bytes that came in, and the numbers that the laws draw from them: contracts of r8At and r8Wide. -/
import Derived.Test.YteaijhmgfddjiaaDoorFrame
import Derived.Test.YteaijhmgfddjiaaDoorWithin
set_option linter.unusedSimpArgs false
set_option linter.unnecessarySimpa false
set_option linter.unusedVariables false
set_option maxRecDepth 100000
namespace Go.Proofs.YteaijhmgfddjiaaDoor
open Go.ChangeShapes Go.WideShapes Go.ChangeAt Go.RowKit

/-- v reads as the bytes bs. -/
def Byts (w : World) (v : Value) (bs : List Int) : Prop := Sl w v bs.length (bs.map (Value.int .u8))
def okByts (bs : List Int) : Prop := ∀ x ∈ bs, 0 ≤ x ∧ x ≤ 255
theorem Byts.mono {w w' : World} {v : Value} {bs : List Int} (h : Byts w v bs) (hb : Below w.heap.size w w') : Byts w' v bs := Sl.mono h hb

theorem r8At_any (v : Value) (bs : List Int) (k n : Int) (w : World) (h : Byts w v bs) (ok : okByts bs) (hk : 0 ≤ k) (hk2 : k ≤ 1000000000) (hn : 1 ≤ n) (hn2 : n ≤ 1000000000) :
    Calls Tryd.prog 9 #[v, .int .i64 k, .int .i64 n] w fun e w' => ∃ r : Int, e = .returned (.int .i64 r) ∧ 0 ≤ r ∧ r < n ∧ w' = w := by
  obtain ⟨a, ca, rfl, hca, hcm, _⟩ := id h
  have hm : bs.length ≤ maxLen := by omega
  unfold maxLen at hm
  clear hca hcm
  by_cases g1 : n ≤ 1
  · have d1 : decide (n ≤ 1) = true := by simpa using g1
    go_enter Tryd.func9, Tryd.ntmps9
    go_wp2
    go_ret
    exact ⟨0, rfl, by omega, by omega, rfl⟩
  · have d1 : decide (n ≤ 1) = false := by simpa using g1
    obtain ⟨j, rfl⟩ : ∃ j : Nat, k = (j : Int) := ⟨k.toNat, by omega⟩
    by_cases g2 : j < bs.length
    · have d2 : decide ((bs.length : Int) ≤ (j : Int)) = false := by simp; omega
      obtain ⟨b1, o1, rfl, c1⟩ := Sl.cells h (by simp <;> omega)
      have u0 : w.cell? ⟨b1, o1 + j, none⟩ = some (.int .u8 bs[j]) := c1 j _ (by simp [g2])
      have hx := ok _ (List.getElem_mem g2)
      have n1 : ¬ n = 0 := by omega
      have r1 := Int.tmod_lt_of_pos bs[j] (show 0 < n by omega)
      have r0 := Int.tmod_nonneg n (show 0 ≤ bs[j] by omega)
      have R1 := Lib.hid r1; have R0 := Lib.hid r0
      have w1 : IntKind.i64.wrap bs[j] = bs[j] := IntWalk.i64_in _ (by omega)
      have w2 : IntKind.i64.wrap (bs[j].tmod n) = bs[j].tmod n := IntWalk.i64_in _ (by omega)
      clear c1 r1 r0 g1 hx
      go_enter Tryd.func9, Tryd.ntmps9
      go_wp2
      go_ret
      exact ⟨_, rfl, R0.out, R1.out, rfl⟩
    · have d2 : decide ((bs.length : Int) ≤ (j : Int)) = true := by simp; omega
      go_enter Tryd.func9, Tryd.ntmps9
      go_wp2
      go_ret
      exact ⟨0, rfl, by omega, by omega, rfl⟩

theorem r8Wide_any (v : Value) (bs : List Int) (k n : Int) (w : World) (h : Byts w v bs) (ok : okByts bs) (hk : 0 ≤ k) (hk2 : k ≤ 1000000) (hn : 1 ≤ n) (hn2 : n ≤ 1000000000) :
    Calls Tryd.prog 6 #[v, .int .i64 k, .int .i64 n] w fun e w' => ∃ r : Int, e = .returned (.int .i64 r) ∧ 0 ≤ r ∧ r < n ∧ w' = w := by
  obtain ⟨a, ca, rfl, _, _, _⟩ := id h
  have w1 : IntKind.i64.wrap (k + 1) = k + 1 := IntWalk.i64_in _ (by omega)
  go_enter Tryd.func6, Tryd.ntmps6
  go_wp2_with fail
  refine (r8At_any _ bs k 256 _ h ok hk (by omega) (by omega) (by omega)).mono ?_
  rintro e w2 ⟨x, rfl, x0, x1, rfl⟩
  go_wp2_with fail
  refine (r8At_any _ bs (k + 1) 256 _ h ok (by omega) (by omega) (by omega) (by omega)).mono ?_
  rintro e w3 ⟨y, rfl, y0, y1, rfl⟩
  have n1 : ¬ n = 0 := by omega
  have r1 := Int.tmod_lt_of_pos (256 * x + y) (show 0 < n by omega)
  have r0 := Int.tmod_nonneg n (show 0 ≤ 256 * x + y by omega)
  have he := Int.tmod_eq_emod_of_nonneg (b := n) (show 0 ≤ 256 * x + y by omega)
  have R1 := Lib.hid (he ▸ r1); have R0 := Lib.hid (he ▸ r0)
  have q1 : IntKind.i64.wrap (256 * x) = 256 * x := IntWalk.i64_in _ (by omega)
  have q2 : IntKind.i64.wrap (256 * x + y) = 256 * x + y := IntWalk.i64_in _ (by omega)
  have q3 : IntKind.i64.wrap ((256 * x + y).tmod n) = (256 * x + y).tmod n := IntWalk.i64_in _ (by omega)
  clear r0 r1 he
  go_wp2
  go_ret
  exact ⟨_, rfl, R0.out, R1.out, rfl⟩

section
variable {H : Type} {enc : TypeId × Value → H} {W : World} {base : Nat}
theorem cells_byte : Tryd.prog.cellsOf 5 = 1 := by kernel_rfl
theorem u8_bd {n : Int} (h : (Lit.int .u8 n).wf = true) : 0 ≤ n ∧ n ≤ 255 := by simpa [Lit.wf, IntKind.min, IntKind.max, IntKind.signed, IntKind.bits] using h

/-- An argument of type []uint8. -/
theorem open_arg_bytes {v : Value} {d : DataW H} {p : List MemPlace} (hv : Value.okWide Tryd.prog W .any base 22 v) (h : DataW.Trod enc Tryd.prog W 0 (fun _ => true) true 22 v d p) :
    ∃ xs, Byts W v xs ∧ okByts xs := by
  obtain ⟨a0, len, cap, rfl⟩ := okWide_slice Tryd.underlying22 hv
  obtain ⟨fuel, hf⟩ := h
  rcases open_ints Tryd.underlying22 Tryd.underlying5 cells_byte hf with ⟨hcs, hx⟩ | ⟨a, len', cap', zs, hcs, _, hl, hm, hz, hx, hcell, hwz⟩
  · simp [Value.cells] at hcs
    obtain ⟨rfl, rfl, rfl⟩ := hcs
    exact ⟨[], ⟨none, 0, rfl, Nat.le_refl _, by simp [maxLen], fun j u hu => by simp at hu⟩, fun x hx => by cases hx⟩
  · simp [Value.cells] at hcs
    obtain ⟨rfl, rfl, rfl⟩ := hcs
    simp only [if_true] at hz
    refine ⟨zs.take len, ⟨some a, cap, by rw [List.length_take, Nat.min_eq_left (by omega)], by rw [List.length_take]; omega, hm, fun j u hu => ?_⟩, fun x hx => u8_bd (hwz x (List.mem_of_mem_take hx))⟩
    have hj : j < len := by have := (List.getElem?_eq_some_iff.1 hu).1; simp at this; omega
    have hc := hcell j (by omega)
    obtain ⟨b, off, spot⟩ := a
    have hspot : spot = none := by simpa [Addr.add] using World.cell?_spot (hcell 0 (by omega))
    subst hspot
    refine ⟨b, off, rfl, ?_⟩
    rw [add_plain] at hc
    rw [hc, ← hu]
    simp [List.getElem?_take, hj, show j < zs.length by omega]
end
end Go.Proofs.YteaijhmgfddjiaaDoor
