/- Contracts of the laws' helpers over Place and slices of it: copy, equality, size, marks. -/
import Derived.Test.YteaijhmgfddjiaaDoorChecked
import Derived.Test.YteaijhmgfddjiaaDoorRegion
import Derived.Test.YteaijhmgfddjiaaDoorKey
import Derived.Test.YteaijhmgfddjiaaDoorApp
import Derived.Test.YteaijhmgfddjiaaDoorMarkT
import Derived.Test.YteaijhmgfddjiaaDoorStrEq
import Derived.Test.YteaijhmgfddjiaaDoorPlcL
import Derived.Deep.QuietTactic
import Derived.BigQuiet
set_option linter.unusedSimpArgs false
set_option linter.unnecessarySimpa false
set_option linter.unusedVariables false
set_option maxRecDepth 100000
namespace Go.Proofs.YteaijhmgfddjiaaDoor
open Go.RowKit

theorem PlcD.ext_iff' (x y : PlcD) : x = y ↔ x.bell = y.bell ∧ x.x = y.x ∧ x.y = y.y ∧ x.z = y.z ∧ x.reach = y.reach := by cases x; cases y; simp [PlcD.mk.injEq]
def PlcD.cells (x : PlcD) : List Value := [.string x.bell, .int .i64 x.x, .int .i64 x.y, .int .i64 x.z, .int .i64 x.reach]
def RdPlcDs (w : World) (v : Value) (xs : List PlcD) : Prop := Sl w v xs.length (xs.flatMap PlcD.cells)
def PlcD.ok (x : PlcD) : Prop := x.bell.size ≤ maxLen ∧ I64 x.x ∧ I64 x.y ∧ I64 x.z ∧ I64 x.reach
def okPlcDs (xs : List PlcD) : Prop := ∀ x ∈ xs, x.ok
theorem PlcD.len_cells (xs : List PlcD) : (xs.flatMap PlcD.cells).length = xs.length * 5 := flat_len (f := PlcD.cells) (fun _ => rfl) xs
def OwnPlcDs (B E : Nat) (w : World) (v : Value) (xs : List PlcD) : Prop := OwnRow B E w 34 5 v xs.length (xs.flatMap PlcD.cells)
section
variable {B E B' E' : Nat} {w w' : World} {v : Value} {xs : List PlcD}
theorem RdPlcDs.mono (h : RdPlcDs w v xs) (hb : Below w.heap.size w w') : RdPlcDs w' v xs := Sl.mono h hb
theorem RdPlcDs.form' (h : RdPlcDs w v xs) : ∃ a cap, v = .slice a xs.length cap ∧ xs.length ≤ maxLen := by
  obtain ⟨a, cap, rfl, h1, h2, _⟩ := h
  exact ⟨a, cap, rfl, by omega⟩
theorem RdPlcDs.form (h : RdPlcDs w v xs) : ∃ a cap, v = .slice a xs.length cap := by
  obtain ⟨a, cap, e, _⟩ := h.form'
  exact ⟨a, cap, e⟩
theorem OwnPlcDs.mono (h : OwnPlcDs B E w v xs) (hb : Below w.heap.size w w') : OwnPlcDs B E w' v xs := OwnRow.mono h hb
theorem OwnPlcDs.touch (h : OwnPlcDs B E w v xs) (t : Touch B' E' w w') (hd : E ≤ B' ∨ E' ≤ B) : OwnPlcDs B E w' v xs := OwnRow.touch h t hd
theorem OwnPlcDs.wide (h : OwnPlcDs B E w v xs) (hB : B' ≤ B) (hE : E ≤ E') : OwnPlcDs B' E' w v xs := OwnRow.wide h hB hE
theorem OwnPlcDs.rd (h : OwnPlcDs B E w v xs) : RdPlcDs w v xs := OwnRow.sl h
theorem OwnPlcDs.form (h : OwnPlcDs B E w v xs) : ∃ a cap, v = .slice a xs.length cap := OwnRow.form h
/-- A Place lies in block b from cell off on. -/
structure PlcDIn (w : World) (b off : Nat) (x : PlcD) : Prop where
  lt : b < w.heap.size
  c0 : w.cell? ⟨b, off, none⟩ = some (.string x.bell)
  c1 : w.cell? ⟨b, off + 1, none⟩ = some (.int .i64 x.x)
  c2 : w.cell? ⟨b, off + 2, none⟩ = some (.int .i64 x.y)
  c3 : w.cell? ⟨b, off + 3, none⟩ = some (.int .i64 x.z)
  c4 : w.cell? ⟨b, off + 4, none⟩ = some (.int .i64 x.reach)
theorem RdPlcDs.at {a : Option Addr} {cap k : Nat} (h : RdPlcDs w (.slice a xs.length cap) xs) (hk : k < xs.length) :
    ∃ b off, a = some ⟨b, off, none⟩ ∧ PlcDIn w b (off + k * 5) xs[k] := by
  obtain ⟨b, off, rfl, hc⟩ := Sl.cells h (by rw [PlcD.len_cells]; omega)
  have h0 := hc (k * 5 + 0) _ (flat_at (f := PlcD.cells) (m := 5) (fun _ => rfl) xs k 0 hk (by omega) (u := .string xs[k].bell) rfl)
  have h1 := hc (k * 5 + 1) _ (flat_at (f := PlcD.cells) (m := 5) (fun _ => rfl) xs k 1 hk (by omega) (u := .int .i64 xs[k].x) rfl)
  have h2 := hc (k * 5 + 2) _ (flat_at (f := PlcD.cells) (m := 5) (fun _ => rfl) xs k 2 hk (by omega) (u := .int .i64 xs[k].y) rfl)
  have h3 := hc (k * 5 + 3) _ (flat_at (f := PlcD.cells) (m := 5) (fun _ => rfl) xs k 3 hk (by omega) (u := .int .i64 xs[k].z) rfl)
  have h4 := hc (k * 5 + 4) _ (flat_at (f := PlcD.cells) (m := 5) (fun _ => rfl) xs k 4 hk (by omega) (u := .int .i64 xs[k].reach) rfl)
  exact ⟨b, off, rfl, ⟨World.block_lt_of_cell? w _ h0, by simpa [Nat.add_assoc] using h0, by simpa [Nat.add_assoc] using h1, by simpa [Nat.add_assoc] using h2, by simpa [Nat.add_assoc] using h3, by simpa [Nat.add_assoc] using h4⟩⟩
end

/-- How many bytes the first k texts have. -/
def sumPlcD (xs : List PlcD) : Nat → Nat
  | 0 => 0
  | k + 1 => sumPlcD xs k + (xs[k]?.map fun x => x.bell.size).getD 0
theorem sumPlcD_step {xs : List PlcD} {k : Nat} (h : k < xs.length) : sumPlcD xs (k + 1) = sumPlcD xs k + xs[k].bell.size := by simp [sumPlcD, h]
theorem sumPlcD_mono (xs : List PlcD) (k j : Nat) : sumPlcD xs k ≤ sumPlcD xs (k + j) := by
  induction j with
  | zero => exact Nat.le_refl _
  | succ j ih => exact Nat.le_trans ih (by rw [← Nat.add_assoc]; simp [sumPlcD])
theorem sumPlcD_le {xs : List PlcD} {k : Nat} (h : k ≤ xs.length) : sumPlcD xs k ≤ sumPlcD xs xs.length := by
  have := sumPlcD_mono xs k (xs.length - k)
  rwa [show k + (xs.length - k) = xs.length by omega] at this
def szPlcDs (xs : List PlcD) : Nat := xs.length + sumPlcD xs xs.length
theorem szPlcDs_len (xs : List PlcD) : xs.length ≤ szPlcDs xs := by unfold szPlcDs; omega
theorem info_Place : (Tryd.prog.info? 34).map (fun i => (i.zero, i.size, i.bytes)) = some (some (.agg #[.string ⟨#[]⟩, .int .i64 0, .int .i64 0, .int .i64 0, .int .i64 0]), 5, 48) := by kernel_rfl
def zsPlcD (n : Nat) : List Value := (List.replicate n [Value.string ⟨#[]⟩, .int .i64 0, .int .i64 0, .int .i64 0, .int .i64 0]).flatten
theorem zsPlcD_succ (n : Nat) : zsPlcD (n + 1) = .string ⟨#[]⟩ :: .int .i64 0 :: .int .i64 0 :: .int .i64 0 :: .int .i64 0 :: zsPlcD n := by simp [zsPlcD, List.replicate_succ]
theorem madePlcD (n : Nat) : (madeCells #[Value.string ⟨#[]⟩, .int .i64 0, .int .i64 0, .int .i64 0, .int .i64 0] (n * 5)).toList = zsPlcD n := by
  have key : ∀ n, (List.range (n * 5)).map (fun i => (#[Value.string ⟨#[]⟩, .int .i64 0, .int .i64 0, .int .i64 0, .int .i64 0] : Array Value)[i % 5]!) = zsPlcD n := by
    intro n
    induction n with
    | zero => rfl
    | succ n ih =>
      rw [show (n + 1) * 5 = 5 + n * 5 by omega, List.range_add, List.map_append, List.map_map, zsPlcD_succ, ← ih]
      have : (fun i => (#[Value.string ⟨#[]⟩, .int .i64 0, .int .i64 0, .int .i64 0, .int .i64 0] : Array Value)[i % 5]!) ∘ (5 + ·) = fun i => (#[Value.string ⟨#[]⟩, .int .i64 0, .int .i64 0, .int .i64 0, .int .i64 0] : Array Value)[i % 5]! := by
        funext i; simp [Nat.add_mod_left]
      rw [this]; rfl
  rw [← key n]
  simp [madeCells]

theorem storedPlcD {w : World} {base : Nat} {e : TypeId} {size g n cap : Nat} {A R : List Value} {z0 z1 z2 z3 z4 : Value} {j : Nat} (h : w.ownsRow base e size (.slice (some ⟨g, 0, none⟩) n cap) n (A ++ z0 :: z1 :: z2 :: z3 :: z4 :: R)) (hA : A.length = j) (u0 u1 u2 u3 u4 : Value) :
    (((((w.setCell ⟨g, j, none⟩ u0).setCell ⟨g, j + 1, none⟩ u1).setCell ⟨g, j + 2, none⟩ u2).setCell ⟨g, j + 3, none⟩ u3).setCell ⟨g, j + 4, none⟩ u4).ownsRow base e size (.slice (some ⟨g, 0, none⟩) n cap) n (A ++ u0 :: u1 :: u2 :: u3 :: u4 :: R) ∧ w.grownBy (((((w.setCell ⟨g, j, none⟩ u0).setCell ⟨g, j + 1, none⟩ u1).setCell ⟨g, j + 2, none⟩ u2).setCell ⟨g, j + 3, none⟩ u3).setCell ⟨g, j + 4, none⟩ u4) (some g) := by
  have h0 := stored1 (A := A) (z := z0) (R := z1 :: z2 :: z3 :: z4 :: R) (j := j) (by simpa using h) (by simp [hA]) u0
  have h1 := stored1 (A := A ++ [u0]) (z := z1) (R := z2 :: z3 :: z4 :: R) (j := j + 1) (by simpa using h0.1) (by simp [hA]) u1
  have h2 := stored1 (A := A ++ [u0, u1]) (z := z2) (R := z3 :: z4 :: R) (j := j + 2) (by simpa using h1.1) (by simp [hA]) u2
  have h3 := stored1 (A := A ++ [u0, u1, u2]) (z := z3) (R := z4 :: R) (j := j + 3) (by simpa using h2.1) (by simp [hA]) u3
  have h4 := stored1 (A := A ++ [u0, u1, u2, u3]) (z := z4) (R := R) (j := j + 4) (by simpa using h3.1) (by simp [hA]) u4
  exact ⟨by simpa using h4.1, (grown_trans h0.2 (grown_trans h1.2 (grown_trans h2.2 (grown_trans h3.2 h4.2))))⟩

/-- What a mark leaves does not matter. -/
def MkPlcDs (B E : Nat) (w : World) (v : Value) (xs : List PlcD) (k : Int) : Prop := True
theorem MkPlcDs.mono {B E : Nat} {w w' : World} {v : Value} {xs : List PlcD} {k : Int} (h : MkPlcDs B E w v xs k) (hb : Below w.heap.size w w') : MkPlcDs B E w' v xs k := trivial
theorem MkPlcDs.touch {B E B' E' : Nat} {w w' : World} {v : Value} {xs : List PlcD} {k : Int} (h : MkPlcDs B E w v xs k) (t : Touch B' E' w w') (hd : E ≤ B' ∨ E' ≤ B) : MkPlcDs B E w' v xs k := trivial
theorem markPlcD_own {B : Nat} {w : World} {te : TypeId} {g n cap j i : Nat} {cs : List Value} (h : w.ownsRow B te 5 (.slice (some ⟨g, 0, none⟩) n cap) n cs) (hi : j < n * 5) (u : Value) :
    (w.setCell ⟨g, j, none⟩ u).ownsRow B te 5 (.slice (some ⟨g, 0, none⟩) n cap) n (cs.set j u) ∧ w.grownBy (w.setCell ⟨g, j, none⟩ u) (some g) := h.stored j u
def sizePlcDs (xs : List PlcD) : Nat := xs.length * 5
theorem sizePlcDs_bd {xs : List PlcD} (h : szPlcDs xs ≤ 1048576) : sizePlcDs xs ≤ 6291456 := by have := szPlcDs_len xs; unfold sizePlcDs; omega
end Go.Proofs.YteaijhmgfddjiaaDoor
