/- Rows of texts, as both packages cut them. -/
import Derived.Test.YteaijhmgfddjiaaDoorSplitS
import Derived.Test.YteaijhmgfddjiaaDoorReadL
import Derived.Test.YteaijhmgfddjiaaDoorKey
import Derived.Test.YteaijhmgfddjiaaDoorLay
set_option linter.unusedSimpArgs false
set_option linter.unnecessarySimpa false
set_option linter.unusedVariables false
set_option maxRecDepth 100000
namespace Go.Proofs.YteaijhmgfddjiaaDoor
open Go.RowKit

/-- v reads as the texts ps, in the block g. -/
def Txt (w : World) (v : Value) (ps : List (List UInt8)) : Prop := ∃ g c, v = .slice (some ⟨g, 0, none⟩) ps.length c ∧ ps.length ≤ c ∧ ∀ j (hj : j < ps.length), w.cell? ⟨g, j, none⟩ = some (.string (bytesB ps[j]))
theorem Txt.mono {w w' : World} {v : Value} {ps : List (List UInt8)} (h : Txt w v ps) (hb : Below w.heap.size w w') : Txt w' v ps := by
  obtain ⟨g, c, rfl, hc, h⟩ := h
  exact ⟨g, c, rfl, hc, fun j hj => cellB hb (h j hj)⟩
theorem Pcs.txt {B : Nat} {w : World} {v : Value} {ps : List (List UInt8)} (h : Pcs B w v ps) (hne : ps ≠ []) : Txt w v ps := by
  obtain ⟨a, c, rfl, ho⟩ := h
  have hpos := List.length_pos_iff.2 hne
  obtain ⟨g, e, hg⟩ : ∃ g, a = some ⟨g, 0, none⟩ ∧ ps.length ≤ c := by
    rcases ho.2 with ⟨e, h0⟩ | ⟨g, cap, cur, e, _, _, hc, _⟩
    · omega
    · simp only [Value.slice.injEq] at e
      exact ⟨g, e.1, by omega⟩
  subst e
  refine ⟨g, c, rfl, hg, fun j hj => ?_⟩
  rw [ho.cellAt j (by omega)]
  simp [hj]
/-- The program's way to cut. -/
theorem split_any (s : ByteArray) (c : UInt8) (w : World) (hs : s.size ≤ 1048576) (hL : Lay w) :
    Calls Tryd.prog 33 #[.string s, .string ⟨#[c]⟩] w fun e w' => ∃ v, e = .returned v ∧ Txt w' v (splitC c s.data.toList) ∧ Below w.heap.size w w' := by
  obtain ⟨m, hm⟩ := hL.len
  refine (Tryd.strings_Split s ⟨#[c]⟩ m w (by omega) hm (by exact Nat.le_refl 1)).mono ?_
  rintro e w' ⟨rfl, rfl⟩
  rw [splitB_eq, countB_eq]
  refine ⟨_, rfl, ⟨w.heap.size, _, rfl, Nat.le_refl _, fun j hj => ?_⟩, belowA _ _⟩
  simp [go_sem, hj]
theorem piece_size {c : UInt8} {s : ByteArray} {p : List UInt8} (h : p ∈ splitC c s.data.toList) (hs : s.size ≤ 1048576) : (bytesB p).size ≤ 1048576 := by
  rw [bytesB_size]
  have := piece_len (c := c) _ p h
  have e : s.data.toList.length = s.size := by cases s; rfl
  omega

end Go.Proofs.YteaijhmgfddjiaaDoor
