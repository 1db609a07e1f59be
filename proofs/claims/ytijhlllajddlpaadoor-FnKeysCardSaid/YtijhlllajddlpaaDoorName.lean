/- Contracts of l01Name and IsName. -/
import Derived.Test.YtijhlllajddlpaaDoorChecked
import Derived.Test.YtijhlllajddlpaaDoorKey
set_option linter.unusedSimpArgs false
set_option linter.unnecessarySimpa false
set_option linter.unusedVariables false
namespace Go.Proofs.YtijhlllajddlpaaDoor
open Go.RowKit

def smallC (c : Int) : Prop := 97 ≤ c ∧ c ≤ 122
def digitC (c : Int) : Prop := 48 ≤ c ∧ c ≤ 57
instance (c : Int) : Decidable (smallC c) := by unfold smallC; infer_instance
instance (c : Int) : Decidable (digitC c) := by unfold digitC; infer_instance

/-- The byte at k, as a number. -/
def byteAt (s : ByteArray) (k : Nat) : Int := ((s.data.toList.getD k 0).toNat : Int)
theorem byteAt_eq (s : ByteArray) (k : Nat) (h : k < s.size) : byteAt s k = (s[k].toNat : Int) := by
  have h' : k < s.data.toList.length := by simpa using h
  unfold byteAt
  rw [List.getD_eq_getElem?_getD, List.getElem?_eq_getElem h']
  rfl

theorem str_nonempty {s : ByteArray} (h : 0 < s.size) : s.toList.isEmpty = false := by
  rw [ByteArray.toList_eq]
  cases hl : s.data.toList with
  | nil => have := congrArg List.length hl; simp at this; have e : s.size = s.data.size := rfl; rw [e, this] at h; simp at h
  | cons a l => rfl
theorem str_empty {s : ByteArray} (h : ¬ 0 < s.size) : s.toList = [] := by
  rw [ByteArray.toList_eq]
  have e : s.size = s.data.size := rfl
  cases hl : s.data.toList with
  | nil => rfl
  | cons a l => have := congrArg List.length hl; simp at this; omega

structure NameOk (s : ByteArray) : Prop where
  pos : 0 < s.size
  len : s.size ≤ 10
  first : smallC (byteAt s 0)
  all : ∀ i, i < s.size → smallC (byteAt s i) ∨ digitC (byteAt s i)
theorem NameOk.iff' (s : ByteArray) : NameOk s ↔ 0 < s.size ∧ s.size ≤ 10 ∧ smallC (byteAt s 0) ∧ ∀ i, i < s.size → smallC (byteAt s i) ∨ digitC (byteAt s i) :=
  ⟨fun h => ⟨h.1, h.2, h.3, h.4⟩, fun h => ⟨h.1, h.2.1, h.2.2.1, h.2.2.2⟩⟩
instance (s : ByteArray) : Decidable (NameOk s) := decidable_of_iff' _ (NameOk.iff' s)
theorem finName {s : ByteArray} {b : Bool} (h : NameOk s ↔ b = true) : b = decide (NameOk s) := by cases b <;> simp at h ⊢ <;> exact h

theorem l01Digit_any (b : Bool) (c : Int) (w : World) (h : b = decide (digitC c)) :
    Calls Tryd.prog 72 #[.int .u8 c] w fun e w' => e = .returned (.bool b) ∧ w' = w := by
  by_cases h1 : 48 ≤ c <;> by_cases h2 : c ≤ 57
  all_goals
    have H := Lib.hid h
    clear h
    first | have d1 : decide (48 ≤ c) = true := by simpa using h1
          | have d1 : decide (48 ≤ c) = false := by simpa using h1
    first | have d2 : decide (c ≤ 57) = true := by simpa using h2
          | have d2 : decide (c ≤ 57) = false := by simpa using h2
    go_enter Tryd.func72, Tryd.ntmps72
    go_wp2
    go_ret
    exact ⟨ret_bool (by rw [H.out]; first | exact yesB (by unfold digitC; omega) | exact noB (by unfold digitC; omega)), rfl⟩

theorem name_no {s : ByteArray} {k : Nat} {c : Int} (hk : k < s.size) (h : byteAt s k = c) (hn : ¬ ((97 ≤ c ∧ c ≤ 122) ∨ (¬ k = 0 ∧ 48 ≤ c ∧ c ≤ 57))) : ¬ NameOk s := fun ok => by
  by_cases h0 : k = 0
  · subst h0; have := ok.first; rw [h] at this; exact hn (.inl this)
  · rcases ok.all k hk with h1 | h1 <;> rw [h] at h1
    · exact hn (.inl h1)
    · exact hn (.inr ⟨h0, h1⟩)
theorem name_step {s : ByteArray} {k : Nat} {c : Int} (h : byteAt s k = c) (hn : (97 ≤ c ∧ c ≤ 122) ∨ (¬ k = 0 ∧ 48 ≤ c ∧ c ≤ 57)) : (k = 0 → smallC (byteAt s 0)) ∧ (smallC (byteAt s k) ∨ digitC (byteAt s k)) := by
  subst h
  refine ⟨fun h0 => ?_, ?_⟩
  · subst h0; rcases hn with h | ⟨h, _⟩
    · exact h
    · exact absurd rfl h
  · rcases hn with h | ⟨_, h⟩
    · exact .inl h
    · exact .inr h

end Go.Proofs.YtijhlllajddlpaaDoor
