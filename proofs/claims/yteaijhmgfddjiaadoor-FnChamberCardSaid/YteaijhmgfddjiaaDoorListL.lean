/- The text of a list of numbers. No program in sight. -/
import Derived.Test.YteaijhmgfddjiaaDoorDecL
set_option linter.unusedSimpArgs false
set_option linter.unnecessarySimpa false
set_option linter.unusedVariables false
set_option maxRecDepth 100000
namespace Go.Proofs.YteaijhmgfddjiaaDoor
open Go.RowKit

def bytesB (l : List UInt8) : ByteArray := ⟨l.toArray⟩
theorem bytesB_list (l : List UInt8) : (bytesB l).data.toList = l := by simp [bytesB]
theorem bytesB_inj {l m : List UInt8} (h : bytesB l = bytesB m) : l = m := by rw [← bytesB_list l, h, bytesB_list]
theorem bytesB_app (l m : List UInt8) : bytesB l ++ bytesB m = bytesB (l ++ m) := by
  apply ByteArray.ext
  simp [bytesB]
theorem bytesB_size (l : List UInt8) : (bytesB l).size = l.length := by simp [bytesB, ByteArray.size]
theorem bytesB_of (s : ByteArray) : bytesB s.data.toList = s := by cases s; simp [bytesB]
def decB (n : Int) : ByteArray := bytesB (Lib.itoa n)

def isVal (n : Int) : Prop := -1000000000000 ≤ n ∧ n ≤ 1000000000000
instance (n : Int) : Decidable (isVal n) := by unfold isVal; infer_instance
def valsB (xs : List Int) : Bool := decide (∀ n ∈ xs, isVal n)
def commaT (xs : List Int) : List UInt8 := Lib.join (xs.map Lib.itoa) [44]
theorem joinTail_snoc (sep : List UInt8) (r : List (List UInt8)) (y : List UInt8) : Lib.joinTail sep (r ++ [y]) = Lib.joinTail sep r ++ (sep ++ y) := by simp [Lib.joinTail]
theorem commaT_nil : commaT [] = [] := rfl
theorem commaT_one (x : Int) : commaT [x] = Lib.itoa x := by unfold commaT; rw [List.map_cons, List.map_nil, Lib.join_one]
theorem commaT_snoc {xs : List Int} (h : xs ≠ []) (x : Int) : commaT (xs ++ [x]) = commaT xs ++ [44] ++ Lib.itoa x := by
  cases xs with
  | nil => exact absurd rfl h
  | cons y ys =>
    unfold commaT
    rw [List.cons_append, List.map_cons, List.map_cons, Lib.join_cons, Lib.join_cons, List.map_append, List.map_cons, List.map_nil, joinTail_snoc]
    simp
theorem commaT_len (xs : List Int) (h : ∀ x ∈ xs, I64 x) : (commaT xs).length ≤ 22 * xs.length := by
  have key : ∀ k, k ≤ xs.length → (commaT (xs.take k)).length ≤ 22 * k := by
    intro k
    induction k with
    | zero => intro _; simp [commaT_nil]
    | succ k ih =>
      intro hk
      have hk' : k < xs.length := by omega
      rw [List.take_succ_eq_append_getElem hk']
      have hi := itoa_len (h _ (List.getElem_mem hk'))
      by_cases e : xs.take k = []
      · rw [e, List.nil_append, commaT_one]; omega
      · rw [commaT_snoc e]
        have := ih (by omega)
        simp only [List.length_append, List.length_cons, List.length_nil]
        omega
  have := key _ (Nat.le_refl _)
  rwa [List.take_length] at this
/-- The text of a list, as the reference writes it, whatever its numbers. -/
def listU (xs : List Int) : ByteArray := if xs = [] then bytesB [45] else bytesB (commaT xs)
/-- The text of a list that has one, else the empty one. -/
def listT (xs : List Int) : ByteArray := if xs.length ≤ 64 ∧ valsB xs = true then listU xs else bytesB []
theorem listT_yes {xs : List Int} (h : xs.length ≤ 64) (hv : valsB xs = true) : listT xs = listU xs := if_pos ⟨h, hv⟩
theorem listT_long {xs : List Int} (h : 64 < xs.length) : listT xs = bytesB [] := if_neg (by omega)
theorem listT_bad {xs : List Int} (hv : valsB xs = false) : listT xs = bytesB [] := if_neg (by rw [hv]; simp)
theorem i64_val {n : Int} (h : isVal n) : I64 n := by unfold isVal at h; simp only [I64, Lit.wf, IntKind.min, IntKind.max, IntKind.signed, IntKind.bits]; simp; omega

end Go.Proofs.YteaijhmgfddjiaaDoor
