/- The object that searches for places: its block, one node less, how many bays are used. -/
import Derived.Test.YteaijhmgfddjiaaBayC
import Derived.Test.YteaijhmgfddjiaaHasI
import Derived.Test.YteaijhmgfddjiaaHas
import Derived.Test.YteaijhmgfddjiaaPut
import Derived.Test.YteaijhmgfddjiaaSortI
import Derived.Test.YteaijhmgfddjiaaClI
import Derived.Test.YteaijhmgfddjiaaOrd
set_option linter.unusedSimpArgs false
set_option linter.unnecessarySimpa false
set_option linter.unusedVariables false
set_option maxRecDepth 100000
namespace Go.Proofs.Yteaijhmgfddjiaa
open Go.RowKit

theorem owns_take {w : World} {base n k cap : Nat} {e : TypeId} {a : Option Addr} {xs : List Value} (h : w.ownsRow base e 1 (.slice a n cap) n xs) (hk : k ≤ n) : w.ownsRow base e 1 (.slice a k cap) k (xs.take k) := by
  obtain ⟨hl, h⟩ := h
  refine ⟨by rw [List.length_take]; omega, ?_⟩
  rcases h with ⟨h1, h2⟩ | ⟨g, c, cur, h1, h2, h3, h4, h5, h6, h7⟩
  · cases h1
    exact .inl ⟨by congr 1; omega, by omega⟩
  · cases h1
    refine .inr ⟨g, cap, cur, rfl, h2, h3, by omega, h5, h6, ?_⟩
    rw [← h7, List.take_take]
    congr 1
    omega

/-- The cells of the two objects. -/
def fI (vb vl : Value) (most : Nat) (left : Nat) (sp : Bool) (vp : Value) : List Value := [.int .i64 (left : Int), .bool sp, vb, vl, .int .i64 (most : Int), vp]
def fS (vb vl : Value) (budget : Nat) (most : Nat) (left : Nat) (sp : Bool) (vp : Value) : List Value := [vb, vl, vp, .int .i64 (most : Int), .int .i64 ((budget - left : Nat) : Int), .int .i64 (budget : Int), .bool sp]
/-- The object lies in block p0, its places behind. -/
def Plc (f : Nat → Bool → Value → List Value) (w0 : World) (p0 left : Nat) (sp : Bool) (pl : List Int) (w : World) : Prop :=
  ∃ a cap, Box w p0 (f left sp (.slice a pl.length cap)) ∧ w.ownsRow (p0 + 1) 2 1 (.slice a pl.length cap) pl.length (pl.map (Value.int .i64)) ∧ Below p0 w0 w
theorem Plc.mono {f : Nat → Bool → Value → List Value} {w0 w w' : World} {p0 left : Nat} {sp : Bool} {pl : List Int} (h : Plc f w0 p0 left sp pl w) (hb : Below w.heap.size w w') : Plc f w0 p0 left sp pl w' := by
  obtain ⟨a, c, h1, h2, h3⟩ := h
  exact ⟨a, c, h1.mono hb, owns_mono h2 hb, h3.trans (hb.mono (Nat.le_of_lt h1.lt))⟩
theorem Plc.drewN {f : Nat → Bool → Value → List Value} {w0 w : World} {p0 left : Nat} {sp : Bool} {pl : List Int} (h : Plc f w0 p0 left sp pl w) (n : Nat) : Plc f w0 p0 left sp pl (w.drewN n) := h.mono (Below.drawN n)

/-- A cell of the object is written. -/
theorem set_box {w0 w : World} {p0 j n : Nat} {cs : List Value} {v : Value} {xs : List Value} {e : TypeId} (h1 : Box w p0 cs) (h2 : w.ownsRow (p0 + 1) e 1 v n xs) (h3 : Below p0 w0 w) (u : Value) (hj : j < cs.length) :
    Box (w.setCell ⟨p0, j, none⟩ u) p0 (cs.set j u) ∧ (w.setCell ⟨p0, j, none⟩ u).ownsRow (p0 + 1) e 1 v n xs ∧ Below p0 w0 (w.setCell ⟨p0, j, none⟩ u) := by
  refine ⟨h1.set u hj, ((OwnRow.mk' h2).setCell (p := ⟨p0, j, none⟩) (Nat.lt_succ_self _) u).1, ?_⟩
  exact h3.trans (Touch.below (Touch.setCell (Touch.refl p0 (p0 + 1) w) ⟨Nat.le_refl _, Nat.lt_succ_self _⟩ u) (Below.refl _ _) (Nat.le_refl _) (Nat.le_of_lt h1.lt))

theorem node_yes (p0 n : Nat) (sp : Bool) (rest : List Value) (w : World) (h : Box w p0 (.int .i64 ((n + 1 : Nat) : Int) :: .bool sp :: rest)) (hn : n ≤ 20000) :
    Calls Try.prog 62 #[.pointer (some ⟨p0, 0, none⟩)] w fun e w' => e = .returned (.bool true) ∧ w' = w.setCell ⟨p0, 0, none⟩ (.int .i64 (n : Int)) := by
  have c0 := h.at' 0 _ rfl
  have f0 := h.fr 0
  have l0 := h.lt
  go_enter Try.func62, Try.ntmps62
  go_wp2
  go_ret
  exact ⟨rfl, rfl⟩
theorem node_no (p0 : Nat) (sp : Bool) (rest : List Value) (w : World) (h : Box w p0 (.int .i64 0 :: .bool sp :: rest)) :
    Calls Try.prog 62 #[.pointer (some ⟨p0, 0, none⟩)] w fun e w' => e = .returned (.bool false) ∧ w' = w.setCell ⟨p0, 1, none⟩ (.bool true) := by
  have c0 := h.at' 0 _ rfl
  have c1 := h.at' 1 _ rfl
  have f1 := h.fr 1
  have l0 := h.lt
  go_enter Try.func62, Try.ntmps62
  go_wp2
  go_ret
  exact ⟨rfl, rfl⟩

theorem used_any (o : Int) (vb vl : Value) (most p0 left : Nat) (sp : Bool) (pl : List Int) (w0 w : World) (h : Plc (fI vb vl most) w0 p0 left sp pl w) (hl : pl.length ≤ 1048576) (ho : o = (notesOfL pl).length) :
    Calls Try.prog 60 #[.pointer (some ⟨p0, 0, none⟩)] w fun e w' => e = .returned (.int .i64 o) ∧ Below w.heap.size w w' := by
  obtain ⟨a, cap, hB, hr, hb⟩ := h
  have c5 := hB.at' 5 _ rfl
  have l0 := hB.lt
  have HO := Lib.hid ho; clear ho
  go_enter Try.func60, Try.ntmps60
  go_wp2_with fail
  refine (cloneInts_any _ pl _ (Sl.of_owns hr) hl).mono ?_
  rintro e w1 ⟨v1, rfl, ho1, hb1⟩
  obtain ⟨ho1, _⟩ := ho1
  clear hr
  go_wp2_with fail
  refine (sortInts_any _ w.heap.size pl _ ho1 (by omega)).mono ?_
  rintro e w2 ⟨rfl, ho2, hg2⟩
  have hb2 : Below w.heap.size w w2 := hb1.grown hg2 hb1.size (fun q hq => (ho1.lt q hq).1)
  clear ho1 hg2
  go_wp2_with fail
  refine (compactInts_any _ w.heap.size pl.length (sortI pl) _ (sortI_len pl).symm ho2 (by rw [sortI_len]; omega)).mono ?_
  rintro e w3 ⟨v3, rfl, ho3, hg3, _⟩
  have hb3 : Below w.heap.size w w3 := hb2.grown hg3 hb2.size (fun q hq => (ho2.lt q hq).1)
  rw [notesOfL_eq] at ho3
  obtain ⟨a3, c3, rfl⟩ := owns_slice ho3
  clear ho3 hg3
  go_wp2
  go_ret
  exact ⟨ret_int HO.out.symm, hb3⟩

theorem missing_any (vb vl : Value) (most p0 left : Nat) (sp : Bool) (pl : List Int) (w0 w : World) (h : Plc (fI vb vl most) w0 p0 left sp pl w) :
    Calls Try.prog 34 #[.pointer (some ⟨p0, 0, none⟩)] w fun e w' => e = .returned (.int .i64 (if sp = true then 5 else 3)) ∧ w' = w := by
  obtain ⟨a, cap, hB, hr, hb⟩ := h
  have c1 := hB.at' 1 _ rfl
  have l0 := hB.lt
  cases sp
  all_goals
    go_enter Try.func34, Try.ntmps34
    go_wp2
    go_ret
    exact ⟨rfl, rfl⟩

end Go.Proofs.Yteaijhmgfddjiaa
