/- Contracts of the touch of a key of both packages, and of TouchOf. -/
import Derived.Test.YtijhlllajddlpaaDoorOneAct
import Derived.Test.YtijhlllajddlpaaDoorChain
set_option linter.unusedSimpArgs false
set_option linter.unnecessarySimpa false
set_option linter.unusedVariables false
set_option maxRecDepth 100000
namespace Go.Proofs.YtijhlllajddlpaaDoor
open Go.RowKit

def heave (ls : List Lev) (u : Int) : Int := chain 1000000000000 ls.reverse u
theorem heave_in {ls : List Lev} {u : Int} (h : armsOk ls) (h0 : 0 ≤ u) (h1 : u ≤ 1000000000000) : heave ls u = -1 ∨ (0 ≤ heave ls u ∧ heave ls u ≤ 1000000000000) := chain_in _ _ h.rev h0 h1

theorem ret_tup2 {a c : Int} {b d : Bool} (h : a = c) (k : b = d) : Ending.returned (.tuple #[.int .i64 a, .bool b]) = .returned (.tuple #[.int .i64 c, .bool d]) := by rw [h, k]
theorem ret_tup2i {a b c d : Int} (h : a = c) (k : b = d) : Ending.returned (.tuple #[.int .i64 a, .int .i64 b]) = .returned (.tuple #[.int .i64 c, .int .i64 d]) := by rw [h, k]
/-- What a box of four cells, laid first of all, holds later on. -/
theorem agg4 {w w1 : World} {a b c d : Value} {t : TypeId} (hb : Below (w.alloc (.cells #[a, b, c, d] t)).heap.size (w.alloc (.cells #[a, b, c, d] t)) w1) :
    w1.cell? ⟨w.heap.size, 0, none⟩ = some a ∧ w1.cell? ⟨w.heap.size, 1, none⟩ = some b ∧ w1.cell? ⟨w.heap.size, 2, none⟩ = some c ∧ w1.cell? ⟨w.heap.size, 3, none⟩ = some d :=
  ⟨cellB hb (by simp [go_sem]), cellB hb (by simp [go_sem]), cellB hb (by simp [go_sem]), cellB hb (by simp [go_sem])⟩

def touchOfV (x : ActD) : Int := if validActB x then (if heave x.levs x.weight < 0 then 0 else heave x.levs x.weight) else 0
def touchOfC (x : ActD) : Int := if validActB x then (if heave x.levs x.weight < 0 then 6 else 0) else 1
theorem validActB_iff {x : ActD} : validActB x = true ↔ ActOk x := by simp [validActB]

end Go.Proofs.YtijhlllajddlpaaDoor
