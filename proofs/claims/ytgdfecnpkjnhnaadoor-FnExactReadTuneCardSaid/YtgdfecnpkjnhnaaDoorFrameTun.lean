/- How an argument that is a tune is opened. -/
import Derived.Test.YtgdfecnpkjnhnaaDoorFrame
import Derived.Test.YtgdfecnpkjnhnaaDoorOpen
import Derived.Test.YtgdfecnpkjnhnaaDoorTun
set_option linter.unusedSimpArgs false
set_option linter.unnecessarySimpa false
set_option linter.unusedVariables false
set_option maxRecDepth 100000
namespace Go.Proofs.YtgdfecnpkjnhnaaDoor
open Go.ChangeShapes Go.WideShapes Go.ChangeAt Go.RowKit Go.Deep

section
variable {H : Type} {enc : TypeId × Value → H} {W : World} {base : Nat}
theorem cells_tone : Tryd.prog.cellsOf 87 = 3 := by kernel_rfl
theorem cells_tune : Tryd.prog.cellsOf 30 = 2 := by kernel_rfl

theorem one_tone (n : Nat) (cs : List Value) (y : DataW H × List MemPlace) (h : DataW.trod enc Tryd.prog W 0 (fun _ => true) true n 87 cs = some y) :
    ∃ x : Ton, cs = x.cells ∧ (I64 x.note ∧ I64 x.start ∧ I64 x.len) := by
  obtain ⟨y0, y1, y2, m, _, hlen, h0, h1, h2⟩ := trod_struct3 Tryd.underlying87 h
  obtain ⟨n0, e0, _, w0⟩ := DataW.trod_int Tryd.underlying2 h0
  obtain ⟨n1, e1, _, w1⟩ := DataW.trod_int Tryd.underlying2 h1
  obtain ⟨n2, e2, _, w2⟩ := DataW.trod_int Tryd.underlying2 h2
  rw [cells_tone] at hlen
  obtain ⟨a, b, c, rfl⟩ := len3 _ hlen
  simp [cells_int] at e0 e1 e2
  subst e0 e1 e2
  exact ⟨⟨n0, n1, n2⟩, rfl, w0, w1, w2⟩

theorem open_arg_tune {v : Value} {d : DataW H} {p : List MemPlace} (hv : Value.okWide Tryd.prog W .any base 30 v) (h : DataW.Trod enc Tryd.prog W 0 (fun _ => true) true 30 v d p) :
    ∃ y : Value × TunD, Tun W v y.1 y.2 ∧ y.2.ok := by
  obtain ⟨c0, c1, y0, y1, m, rfl, _, _, h0, h1⟩ := Joins.open_agg2 Tryd.underlying30 (by kernel_rfl) cells_tune hv h
  obtain ⟨s, e0, _, w0⟩ := DataW.trod_string Tryd.underlying9 h0
  obtain ⟨xs, hx, hr⟩ := open_structs Ton.cells (fun x => I64 x.note ∧ I64 x.start ∧ I64 x.len) 3 (by omega) (fun _ => rfl) Tryd.underlying28 cells_tone one_tone h1
  simp only [List.cons.injEq, and_true] at e0
  subst e0
  exact ⟨(c1, ⟨s, xs⟩), ⟨rfl, hx⟩, w0, hr⟩
end
end Go.Proofs.YtgdfecnpkjnhnaaDoor
