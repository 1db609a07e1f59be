/- Contracts of l01Name and IsName. -/
import Derived.Test.YteaijhmgfddjiaaDoorChecked
import Derived.Test.YteaijhmgfddjiaaDoorKey
set_option linter.unusedSimpArgs false
set_option linter.unnecessarySimpa false
set_option linter.unusedVariables false
namespace Go.Proofs.YteaijhmgfddjiaaDoor
open Go.RowKit

def smallC (c : Int) : Prop := 97 ≤ c ∧ c ≤ 122
def digitC (c : Int) : Prop := 48 ≤ c ∧ c ≤ 57
instance (c : Int) : Decidable (smallC c) := by unfold smallC; infer_instance
instance (c : Int) : Decidable (digitC c) := by unfold digitC; infer_instance

/-- The byte at k, as a number. -/
def byteAt (s : ByteArray) (k : Nat) : Int := ((s.data.toList.getD k 0).toNat : Int)
theorem byteAt_eq (s : ByteArray) (k : Nat) (h : k < s.size) : byteAt s k = (s[k].toNat : Int) := by
  have h' : k < s.data.toList.length := by simpa using h
  unfold byteAt
  rw [List.getD_eq_getElem?_getD, List.getElem?_eq_getElem h']
  rfl

theorem str_nonempty {s : ByteArray} (h : 0 < s.size) : s.toList.isEmpty = false := by
  rw [ByteArray.toList_eq]
  cases hl : s.data.toList with
  | nil => have := congrArg List.length hl; simp at this; have e : s.size = s.data.size := rfl; rw [e, this] at h; simp at h
  | cons a l => rfl
theorem str_empty {s : ByteArray} (h : ¬ 0 < s.size) : s.toList = [] := by
  rw [ByteArray.toList_eq]
  have e : s.size = s.data.size := rfl
  cases hl : s.data.toList with
  | nil => rfl
  | cons a l => have := congrArg List.length hl; simp at this; omega

structure NameOk (s : ByteArray) : Prop where
  pos : 0 < s.size
  len : s.size ≤ 10
  first : smallC (byteAt s 0)
  all : ∀ i, i < s.size → smallC (byteAt s i) ∨ digitC (byteAt s i)
theorem NameOk.iff' (s : ByteArray) : NameOk s ↔ 0 < s.size ∧ s.size ≤ 10 ∧ smallC (byteAt s 0) ∧ ∀ i, i < s.size → smallC (byteAt s i) ∨ digitC (byteAt s i) :=
  ⟨fun h => ⟨h.1, h.2, h.3, h.4⟩, fun h => ⟨h.1, h.2.1, h.2.2.1, h.2.2.2⟩⟩
instance (s : ByteArray) : Decidable (NameOk s) := decidable_of_iff' _ (NameOk.iff' s)
theorem finName {s : ByteArray} {b : Bool} (h : NameOk s ↔ b = true) : b = decide (NameOk s) := by cases b <;> simp at h ⊢ <;> exact h

theorem name_no {s : ByteArray} {k : Nat} {c : Int} (hk : k < s.size) (h : byteAt s k = c) (hn : ¬ ((97 ≤ c ∧ c ≤ 122) ∨ (¬ k = 0 ∧ 48 ≤ c ∧ c ≤ 57))) : ¬ NameOk s := fun ok => by
  by_cases h0 : k = 0
  · subst h0; have := ok.first; rw [h] at this; exact hn (.inl this)
  · rcases ok.all k hk with h1 | h1 <;> rw [h] at h1
    · exact hn (.inl h1)
    · exact hn (.inr ⟨h0, h1⟩)
theorem name_step {s : ByteArray} {k : Nat} {c : Int} (h : byteAt s k = c) (hn : (97 ≤ c ∧ c ≤ 122) ∨ (¬ k = 0 ∧ 48 ≤ c ∧ c ≤ 57)) : (k = 0 → smallC (byteAt s 0)) ∧ (smallC (byteAt s k) ∨ digitC (byteAt s k)) := by
  subst h
  refine ⟨fun h0 => ?_, ?_⟩
  · subst h0; rcases hn with h | ⟨h, _⟩
    · exact h
    · exact absurd rfl h
  · rcases hn with h | ⟨_, h⟩
    · exact .inl h
    · exact .inr h

set_option maxRecDepth 100000 in
set_option maxHeartbeats 1000000 in
theorem isName_any (s : ByteArray) (w : World) (hs : s.size ≤ maxLen) :
    Calls Tryd.prog 30 #[.string s] w fun e w' => e = .returned (.bool (decide (NameOk s))) ∧ Below w.heap.size w w' := by
  unfold maxLen at hs
  by_cases e1 : 0 < s.size
  · by_cases e2 : s.size ≤ 10
    · have d1 : decide ((s.size : Int) < 1) = false := by simp; omega
      have d2 : decide ((10 : Int) < (s.size : Int)) = false := by simp; omega
      have hconv := run_bytes_of_string (P := Tryd.prog) w 9 22 5 s Tryd.underlying9 Tryd.underlying22 Tryd.underlying5
      have hz : s.size ≤ grownCap w s.size 0 5 := grownCap_ge w _ _ _
      have hcell : ∀ k, k < s.size → (w.drew.alloc (.cells (bytesRow s (grownCap w s.size 0 5)) 5 ((bytesRow s (grownCap w s.size 0 5)).size, (bytesRow s (grownCap w s.size 0 5)).size + 1))).cell? ⟨w.heap.size, k, none⟩ = some (.int .u8 (byteAt s k)) := fun k hk => by
        rw [byteAt_eq s k hk]
        exact (World.cell?_alloc_mark _ _ _ _ k).trans (bytesRow_at s _ k hk)
      have HC := Lib.hid hcell; clear hcell
      generalize grownCap w s.size 0 5 = cap at hconv hz HC
      generalize (bytesRow s cap) = row at hconv HC
      go_enter Tryd.func30, Tryd.ntmps30
      go_wp2
      go_loopw [18] (fun i wr => ∃ k : Nat, k ≤ s.size ∧ i = .int .i64 k ∧ (∀ i, i < k → (i = 0 → smallC (byteAt s 0)) ∧ (smallC (byteAt s i) ∨ digitC (byteAt s i))) ∧ (∀ k, k < s.size → wr.cell? ⟨w.heap.size, k, none⟩ = some (.int .u8 (byteAt s k))) ∧ Below w.heap.size w wr) (fun i _ => s.size - (intOf i).toNat)
      case atStart =>
        refine ⟨0, Nat.zero_le _, rfl, by intro i h; omega, HC.out, ?_⟩
        exact ((Below.refl _ _).drew).alloc (Nat.le_refl _) _
      case round =>
        clear hconv
        obtain ⟨k, hk, rfl, ht', hcl, hb⟩ := hrel
        have ht := Lib.hid ht'; clear ht'
        have HC2 := Lib.hid hcl
        by_cases hlt : k < s.size
        · have hck := hcl k hlt
          clear hcl
          generalize hc : byteAt s k = c at hck
          have C := Lib.hid hc; clear hc
          by_cases s1 : 97 ≤ c <;> by_cases s2 : c ≤ 122 <;> by_cases s3 : 48 ≤ c <;> by_cases s4 : c ≤ 57 <;> by_cases s0 : k = 0
          all_goals
            first
              | (exfalso; omega)
              | skip
          all_goals
            have S1 := Lib.hid s1; have S2 := Lib.hid s2; have S3 := Lib.hid s3; have S4 := Lib.hid s4; have S0 := Lib.hid s0
            first | have d1 : decide (97 ≤ c) = true := by simpa using s1
                  | have d1 : decide (97 ≤ c) = false := by simpa using s1
            first | have d2 : decide (c ≤ 122) = true := by simpa using s2
                  | have d2 : decide (c ≤ 122) = false := by simpa using s2
            first | have d3 : decide (48 ≤ c) = true := by simpa using s3
                  | have d3 : decide (48 ≤ c) = false := by simpa using s3
            first | have d4 : decide (c ≤ 57) = true := by simpa using s4
                  | have d4 : decide (c ≤ 57) = false := by simpa using s4
            first | have d0 : ((k : Int) == 0) = true := by simpa using s0
                  | have d0 : ((k : Int) == 0) = false := by simpa using s0
            clear s1 s2 s3 s4 s0
            go_wp2
          all_goals
            have s1 := S1.out; have s2 := S2.out; have s3 := S3.out; have s4 := S4.out; have s0 := S0.out
            first
              | (go_ret
                 exact ⟨ret_bool (finName (by simpa using name_no hlt C.out (by omega))), hb⟩)
              | (go_roundw
                 case rel => exact ⟨k + 1, by omega, by go_num, lt_step ht.out (name_step C.out (by omega)), HC2.out, hb⟩
                 case measure => simp [intOf]; omega)
        · have hall := ht.out
          have H := Lib.hid (show NameOk s from ⟨e1, e2, (hall 0 (by omega)).1 rfl, fun i hi => (hall i (by omega)).2⟩)
          go_wp2
          go_ret
          exact ⟨ret_bool (finName (by simpa using H.out)), hb⟩
    · have d1 : decide ((s.size : Int) < 1) = false := by simp; omega
      have d2 : decide ((10 : Int) < (s.size : Int)) = true := by simp; omega
      have E2 := Lib.hid e2; clear e2
      go_enter Tryd.func30, Tryd.ntmps30
      go_wp2
      go_ret
      exact ⟨ret_bool (finName (by simpa using fun h : NameOk s => E2.out h.len)), Below.refl _ _⟩
  · have d1 : decide ((s.size : Int) < 1) = true := by simp; omega
    have E1 := Lib.hid e1; clear e1
    go_enter Tryd.func30, Tryd.ntmps30
    go_wp2
    go_ret
    exact ⟨ret_bool (finName (by simpa using fun h : NameOk s => E1.out h.pos)), Below.refl _ _⟩

end Go.Proofs.YteaijhmgfddjiaaDoor
