/- The rows of a method, plain; and a row of rows that begins. -/
import Derived.Test.YtgdfecnpkjnhnaaDoorIntssM
import Derived.Test.YtgdfecnpkjnhnaaDoorMethV
import Derived.Test.YtgdfecnpkjnhnaaDoorApplyL
import Derived.Test.YtgdfecnpkjnhnaaDoorRounds
set_option linter.unusedSimpArgs false
set_option linter.unnecessarySimpa false
set_option linter.unusedVariables false
set_option maxRecDepth 100000
namespace Go.Proofs.YtgdfecnpkjnhnaaDoor
open Go.RowKit

/-- The row after k changes. -/
def mrow (m : Nat) (ps : List (List UInt8)) : Nat → List Int
  | 0 => rounds m
  | k + 1 => applyL (stayV (bytesB (ps.getD k [])) (mrow m ps k).length) 0 (mrow m ps k)
theorem mrow_len (m : Nat) (ps : List (List UInt8)) : ∀ k, (mrow m ps k).length = m
  | 0 => rounds_len m
  | k + 1 => by unfold mrow; rw [ap_len _ _ _ _ (Nat.le_refl _)]; exact mrow_len m ps k
theorem mrow_step {m : Nat} {ps : List (List UInt8)} {k : Nat} (h : k < ps.length) : mrow m ps (k + 1) = applyL (stayV (bytesB ps[k]) (m : Int)) 0 (mrow m ps k) := by
  conv => lhs; unfold mrow
  rw [mrow_len, List.getD_eq_getElem?_getD, List.getElem?_eq_getElem h]; rfl
def rowsTo (m : Nat) (ps : List (List UInt8)) (k : Nat) : List (List Int) := (List.range (k + 1)).map (mrow m ps)
theorem rowsTo_zero (m : Nat) (ps : List (List UInt8)) : rowsTo m ps 0 = [rounds m] := rfl
theorem rowsTo_succ (m : Nat) (ps : List (List UInt8)) (k : Nat) : rowsTo m ps (k + 1) = rowsTo m ps k ++ [mrow m ps (k + 1)] := by
  unfold rowsTo
  rw [List.range_succ, List.map_append]; rfl
theorem rowsTo_len (m : Nat) (ps : List (List UInt8)) (k : Nat) : (rowsTo m ps k).length = k + 1 := by simp [rowsTo]
theorem rowsTo_get {m : Nat} {ps : List (List UInt8)} {k j : Nat} (h : j < (rowsTo m ps k).length) : (rowsTo m ps k)[j] = mrow m ps j := by simp [rowsTo]

noncomputable def mrV (s : ByteArray) (n : Int) : List (List Int) := if mdC s n = 0 then rowsTo n.toNat (mdL s) (mdL s).length else []
theorem mr_yes {s : ByteArray} {n : Int} (h : mdC s n = 0) : mrV s n = rowsTo n.toNat (mdL s) (mdL s).length := if_pos h
theorem mr_no {s : ByteArray} {n : Int} (h : ¬ mdC s n = 0) : mrV s n = [] := if_neg h
theorem lenSum_bd {xs : List (List Int)} {c : Nat} (h : ∀ x ∈ xs, x.length ≤ c) : ∀ k, k ≤ xs.length → lenSum xs k ≤ c * k
  | 0, _ => by simp [lenSum]
  | k + 1, hk => by
    have := lenSum_bd h k (by omega)
    rw [lenSum_step (by omega), Nat.mul_succ]
    have := h _ (List.getElem_mem (show k < xs.length by omega))
    omega
theorem mr_bd (s : ByteArray) (n : Int) : sizeIntss (mrV s n) ≤ 1452 ∧ (mrV s n).length ≤ 121 := by
  by_cases h : mdC s n = 0
  · obtain ⟨hst, _, _, hl⟩ := md_zero h
    rw [mr_yes h]
    have hlen := rowsTo_len n.toNat (mdL s) (mdL s).length
    have hb : ∀ x ∈ rowsTo n.toNat (mdL s) (mdL s).length, x.length ≤ 12 := fun x hx => by
      obtain ⟨j, _, rfl⟩ := List.mem_map.1 hx
      rw [mrow_len]; unfold stage at hst; omega
    have := lenSum_bd hb _ (Nat.le_refl _)
    unfold sizeIntss
    omega
  · rw [mr_no h]; simp [sizeIntss, lenSum]

theorem owns_lit1R (w : World) (cs : List Value) (e : TypeId) (n base : Nat) (hn : cs.length = n) (h : base ≤ w.heap.size) (hm : n ≤ maxLen) : (w.alloc (.cells cs.toArray e)).ownsRow base e 1 (.slice (some ⟨w.heap.size, 0, none⟩) n n) n cs := by
  subst hn
  exact ⟨by simp, .inr ⟨w.heap.size, cs.length, cs.toArray, rfl, h, heap_alloc_new w _, Nat.le_refl _, hm, by simp, by simp⟩⟩
/-- A row of one row. -/
theorem ISt.one {B : Nat} {w : World} {lv : Value} {x : List Int} (h : OwnRow B w.heap.size w 2 1 lv x.length (x.map (Value.int .i64))) (hB : B ≤ w.heap.size) :
    ISt B (w.heap.size + 1) (w.alloc (.cells #[lv] 63)) (.slice (some ⟨w.heap.size, 0, none⟩) 1 1) [(lv, x)] := by
  refine ⟨⟨owns_lit1R w [lv] _ 1 B rfl hB (by simp [maxLen]), fun k hk => ?_⟩, fun y hy => ?_, fun y hy => ?_, by simp⟩
  · simp [Value.ownBlock] at hk; omega
  · rw [List.mem_singleton.1 hy]
    exact (h.mono (belowA _ _)).wide (Nat.le_refl _) (by omega)
  · rw [List.mem_singleton.1 hy]
    refine .inr ?_
    intro e
    have : lv.ownBlock = some w.heap.size := by rw [← e]; simp [Value.ownBlock]
    have := h.2 _ this
    omega
theorem ISt.at {B E : Nat} {w : World} {a : Option Addr} {n c : Nat} {ys : List (Value × List Int)} (h : ISt B E w (.slice a n c) ys) (hn : ys.length = n) {k : Nat} (hk : k < ys.length) :
    ∃ b o l q, a = some ⟨b, o, none⟩ ∧ w.cell? ⟨b, o + k, none⟩ = some (.slice l ys[k].2.length q) ∧ Ints w (.slice l ys[k].2.length q) ys[k].2 := by
  subst hn
  obtain ⟨b, o, rfl, hc⟩ := Sl.cells h.1.sl (by simp; omega)
  have hi := (h.2.1 _ (List.getElem_mem hk)).sl
  obtain ⟨l, q, e⟩ := (h.2.1 _ (List.getElem_mem hk)).form
  have h0 := hc k ys[k].1 (by simp [hk])
  rw [e] at h0 hi
  exact ⟨b, o, l, q, rfl, h0, hi⟩

/-- What MethodRows of both packages answers. -/
def MrR (s : ByteArray) (n : Int) (w : World) (e : Ending) (w' : World) : Prop := ∃ v, e = .returned (.tuple #[v, .int .i64 (mdC s n)]) ∧ OwnIntss w.heap.size w'.heap.size w' v (mrV s n) ∧ Below w.heap.size w w'

end Go.Proofs.YtgdfecnpkjnhnaaDoor
