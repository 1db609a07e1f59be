/- How an argument that is an action is opened. -/
import Derived.Test.YtijhlllajddlpaaDoorFrame
import Derived.Test.YtijhlllajddlpaaDoorOpen
import Derived.Test.YtijhlllajddlpaaDoorAct
set_option linter.unusedSimpArgs false
set_option linter.unnecessarySimpa false
set_option linter.unusedVariables false
set_option maxRecDepth 100000
namespace Go.Proofs.YtijhlllajddlpaaDoor
open Go.ChangeShapes Go.WideShapes Go.ChangeAt Go.RowKit Go.Deep

section
variable {H : Type} {enc : TypeId × Value → H} {W : World} {base : Nat}
theorem cells_lever : Tryd.prog.cellsOf 73 = 2 := by kernel_rfl
theorem cells_action : Tryd.prog.cellsOf 24 = 4 := by kernel_rfl

theorem one_lever (n : Nat) (cs : List Value) (y : DataW H × List MemPlace) (h : DataW.trod enc Tryd.prog W 0 (fun _ => true) true n 73 cs = some y) :
    ∃ x : Lev, cs = x.cells ∧ (I64 x.inn ∧ I64 x.out) := by
  obtain ⟨y0, y1, m, _, hlen, h0, h1⟩ := trod_struct2 Tryd.underlying73 h
  obtain ⟨n0, e0, _, w0⟩ := DataW.trod_int Tryd.underlying2 h0
  obtain ⟨n1, e1, _, w1⟩ := DataW.trod_int Tryd.underlying2 h1
  rw [cells_lever] at hlen
  obtain ⟨a, b, rfl⟩ := len2 _ hlen
  simp [cells_int] at e0 e1
  subst e0 e1
  exact ⟨⟨n0, n1⟩, rfl, w0, w1⟩

theorem open_arg_action {v : Value} {d : DataW H} {p : List MemPlace} (hv : Value.okWide Tryd.prog W .any base 24 v) (h : DataW.Trod enc Tryd.prog W 0 (fun _ => true) true 24 v d p) :
    ∃ y : Value × ActD, Acc W v y.1 y.2 ∧ y.2.ok := by
  obtain ⟨c0, c1, c2, c3, y0, y1, y2, y3, m, rfl, _, _, h0, h1, h2, h3⟩ := Joins.open_agg4 Tryd.underlying24 (by kernel_rfl) cells_action hv h
  obtain ⟨n0, e0, _, w0⟩ := DataW.trod_int Tryd.underlying2 h0
  obtain ⟨n2, e2, _, w2⟩ := DataW.trod_int Tryd.underlying2 h2
  obtain ⟨n3, e3, _, w3⟩ := DataW.trod_int Tryd.underlying2 h3
  obtain ⟨xs, hx, hr⟩ := open_structs Lev.cells (fun x => I64 x.inn ∧ I64 x.out) 2 (by omega) (fun _ => rfl) Tryd.underlying22 cells_lever one_lever h1
  simp only [List.cons.injEq, and_true] at e0 e2 e3
  subst e0 e2 e3
  exact ⟨(c1, ⟨n0, xs, n2, n3⟩), ⟨rfl, hx⟩, w0, w2, w3, hr⟩
end
end Go.Proofs.YtijhlllajddlpaaDoor
