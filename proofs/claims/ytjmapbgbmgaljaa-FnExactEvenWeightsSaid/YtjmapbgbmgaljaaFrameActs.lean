/- How an argument that is a slice of actions is opened. -/
import Derived.Test.YtjmapbgbmgaljaaFrameAct
import Derived.Test.YtjmapbgbmgaljaaActs
set_option linter.unusedSimpArgs false
set_option linter.unnecessarySimpa false
set_option linter.unusedVariables false
set_option maxRecDepth 100000
namespace Go.Proofs.Ytjmapbgbmgaljaa
open Go.ChangeShapes Go.WideShapes Go.ChangeAt Go.RowKit Go.Deep

section
variable {H : Type} {enc : TypeId × Value → H} {W : World} {base : Nat}
theorem len4 : ∀ (l : List Value), l.length = 4 → ∃ a b c d, l = [a, b, c, d]
  | [a, b, c, d], _ => ⟨a, b, c, d, rfl⟩
theorem cells_levs : Try.prog.cellsOf 22 = 1 := by kernel_rfl

theorem one_action (n : Nat) (cs : List Value) (y : DataW H × List MemPlace) (h : DataW.trod enc Try.prog W 0 (fun _ => true) true n 24 cs = some y) :
    ∃ x : Value × ActD, cs = actCells x ∧ (Levs W x.1 x.2.levs ∧ x.2.ok) := by
  obtain ⟨y0, y1, y2, y3, m, _, hlen, h0, h1, h2, h3⟩ := Joins.trod_struct4 Try.underlying24 h
  obtain ⟨n0, e0, _, w0⟩ := DataW.trod_int Try.underlying2 h0
  obtain ⟨n2, e2, _, w2⟩ := DataW.trod_int Try.underlying2 h2
  obtain ⟨n3, e3, _, w3⟩ := DataW.trod_int Try.underlying2 h3
  rw [cells_action] at hlen
  obtain ⟨a, b, c, d, rfl⟩ := len4 _ hlen
  simp [cells_int, cells_levs] at e0 e2 e3 h1
  subst e0 e2 e3
  obtain ⟨xs, hx, hr⟩ := open_structs Lev.cells (fun x => I64 x.inn ∧ I64 x.out) 2 (by omega) (fun _ => rfl) Try.underlying22 cells_lever one_lever h1
  exact ⟨(b, ⟨n0, xs, n2, n3⟩), rfl, hx, w0, w2, w3, hr⟩

theorem open_arg_actions {v : Value} {d : DataW H} {p : List MemPlace} (hv : Value.okWide Try.prog W .any base 34 v) (h : DataW.Trod enc Try.prog W 0 (fun _ => true) true 34 v d p) :
    ∃ x : List ActD, RdActs W v x ∧ okActs x := by
  obtain ⟨a0, len, cap, rfl⟩ := okWide_slice Try.underlying34 hv
  obtain ⟨fuel, hf⟩ := h
  obtain ⟨ys, hx, hr⟩ := open_structs actCells (fun y => Levs W y.1 y.2.levs ∧ y.2.ok) 4 (by omega) (fun _ => rfl) Try.underlying34 cells_action one_action hf
  exact ⟨ys.map Prod.snd, ⟨ys, rfl, hx, fun y hy => (hr y hy).1⟩, fun x hx => by obtain ⟨y, hy, rfl⟩ := List.mem_map.1 hx; exact (hr y hy).2⟩
end
end Go.Proofs.Ytjmapbgbmgaljaa
