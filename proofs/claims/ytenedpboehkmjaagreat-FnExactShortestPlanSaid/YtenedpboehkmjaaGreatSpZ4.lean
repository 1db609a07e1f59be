import Derived.Test.YtenedpboehkmjaaGreatChecked
import Derived.Test.YtenedpboehkmjaaGreatSpZ1
import Derived.Deep.QuietTactic
import Derived.BigQuiet
/- Contracts of l01Name and IsName. -/
set_option linter.unusedSimpArgs false
set_option linter.unnecessarySimpa false
set_option linter.unusedVariables false
namespace Go.Proofs.YtenedpboehkmjaaGreat
open Go.RowKit

def smallC (c : Int) : Prop := 97 ≤ c ∧ c ≤ 122
def digitC (c : Int) : Prop := 48 ≤ c ∧ c ≤ 57
instance (c : Int) : Decidable (smallC c) := by unfold smallC; infer_instance
instance (c : Int) : Decidable (digitC c) := by unfold digitC; infer_instance

/-- The byte at k, as a number. -/
def byteAt (s : ByteArray) (k : Nat) : Int := ((s.data.toList.getD k 0).toNat : Int)
theorem byteAt_eq (s : ByteArray) (k : Nat) (h : k < s.size) : byteAt s k = (s[k].toNat : Int) := by
  have h' : k < s.data.toList.length := by simpa using h
  unfold byteAt
  rw [List.getD_eq_getElem?_getD, List.getElem?_eq_getElem h']
  rfl

theorem str_nonempty {s : ByteArray} (h : 0 < s.size) : s.toList.isEmpty = false := by
  rw [ByteArray.toList_eq]
  cases hl : s.data.toList with
  | nil => have := congrArg List.length hl; simp at this; have e : s.size = s.data.size := rfl; rw [e, this] at h; simp at h
  | cons a l => rfl
theorem str_empty {s : ByteArray} (h : ¬ 0 < s.size) : s.toList = [] := by
  rw [ByteArray.toList_eq]
  have e : s.size = s.data.size := rfl
  cases hl : s.data.toList with
  | nil => rfl
  | cons a l => have := congrArg List.length hl; simp at this; omega

structure NameOk (s : ByteArray) : Prop where
  pos : 0 < s.size
  len : s.size ≤ 10
  first : smallC (byteAt s 0)
  all : ∀ i, i < s.size → smallC (byteAt s i) ∨ digitC (byteAt s i)
theorem NameOk.iff' (s : ByteArray) : NameOk s ↔ 0 < s.size ∧ s.size ≤ 10 ∧ smallC (byteAt s 0) ∧ ∀ i, i < s.size → smallC (byteAt s i) ∨ digitC (byteAt s i) :=
  ⟨fun h => ⟨h.1, h.2, h.3, h.4⟩, fun h => ⟨h.1, h.2.1, h.2.2.1, h.2.2.2⟩⟩
instance (s : ByteArray) : Decidable (NameOk s) := decidable_of_iff' _ (NameOk.iff' s)
theorem finName {s : ByteArray} {b : Bool} (h : NameOk s ↔ b = true) : b = decide (NameOk s) := by cases b <;> simp at h ⊢ <;> exact h

theorem l01Small_any (b : Bool) (c : Int) (w : World) (h : b = decide (smallC c)) :
    Calls Tryz.prog 128 #[.int .u8 c] w fun e w' => e = .returned (.bool b) ∧ w' = w := by
  by_cases h1 : 97 ≤ c <;> by_cases h2 : c ≤ 122
  all_goals
    have H := Lib.hid h
    clear h
    first | have d1 : decide (97 ≤ c) = true := by simpa using h1
          | have d1 : decide (97 ≤ c) = false := by simpa using h1
    first | have d2 : decide (c ≤ 122) = true := by simpa using h2
          | have d2 : decide (c ≤ 122) = false := by simpa using h2
    go_enter Tryz.func128, Tryz.ntmps128
    go_wp2
    go_ret
    exact ⟨ret_bool (by rw [H.out]; first | exact yesB (by unfold smallC; omega) | exact noB (by unfold smallC; omega)), rfl⟩
theorem l01Digit_any (b : Bool) (c : Int) (w : World) (h : b = decide (digitC c)) :
    Calls Tryz.prog 129 #[.int .u8 c] w fun e w' => e = .returned (.bool b) ∧ w' = w := by
  by_cases h1 : 48 ≤ c <;> by_cases h2 : c ≤ 57
  all_goals
    have H := Lib.hid h
    clear h
    first | have d1 : decide (48 ≤ c) = true := by simpa using h1
          | have d1 : decide (48 ≤ c) = false := by simpa using h1
    first | have d2 : decide (c ≤ 57) = true := by simpa using h2
          | have d2 : decide (c ≤ 57) = false := by simpa using h2
    go_enter Tryz.func129, Tryz.ntmps129
    go_wp2
    go_ret
    exact ⟨ret_bool (by rw [H.out]; first | exact yesB (by unfold digitC; omega) | exact noB (by unfold digitC; omega)), rfl⟩

set_option maxHeartbeats 1000000 in
theorem l01Name_any (s : ByteArray) (w : World) (hs : s.size ≤ maxLen) :
    Calls Tryz.prog 108 #[.string s] w fun e w' => e = .returned (.bool (decide (NameOk s))) ∧ w' = w := by
  unfold maxLen at hs
  by_cases e1 : 0 < s.size
  · have n1 : s.toList.isEmpty = false := str_nonempty e1
    by_cases e2 : s.size ≤ 10
    · have d2 : decide ((10 : Int) < (s.size : Int)) = false := by simp; omega
      by_cases e3 : smallC (byteAt s 0)
      · have E3 := Lib.hid e3; clear e3
        go_enter Tryz.func108, Tryz.ntmps108
        go_wp2_with fail
        rw [← byteAt_eq s 0 e1]
        refine (l01Small_any true _ _ (yesB E3.out)).mono ?_
        rintro e w1 ⟨rfl, rfl⟩
        go_wp2_with fail
        go_loop [3] (fun i => ∃ k : Nat, k ≤ s.size ∧ i = .int .i64 k ∧ (∀ i, i < k → smallC (byteAt s i) ∨ digitC (byteAt s i))) (fun i => s.size - (intOf i).toNat)
        case atStart => exact ⟨0, Nat.zero_le _, rfl, by intro i h; omega⟩
        case round =>
          obtain ⟨k, hk, rfl, ht'⟩ := hrel
          have ht := Lib.hid ht'; clear ht'
          by_cases hlt : k < s.size
          · have hB := Lib.hid (byteAt_eq s k hlt)
            by_cases g0 : smallC (byteAt s k)
            · have G0 := Lib.hid g0; clear g0
              go_wp2_with fail
              rw [← hB.out]
              refine (l01Small_any true _ _ (yesB G0.out)).mono ?_
              rintro e w1 ⟨rfl, rfl⟩
              go_wp2
              exact ⟨⟨k + 1, by omega, by go_num, lt_step ht.out (.inl G0.out)⟩, by simp [intOf]; omega⟩
            · have G0 := Lib.hid g0; clear g0
              by_cases g1 : digitC (byteAt s k)
              · have G1 := Lib.hid g1; clear g1
                go_wp2_with fail
                rw [← hB.out]
                refine (l01Small_any false _ _ (noB G0.out)).mono ?_
                rintro e w1 ⟨rfl, rfl⟩
                go_wp2_with fail
                rw [← hB.out]
                refine (l01Digit_any true _ _ (yesB G1.out)).mono ?_
                rintro e w1 ⟨rfl, rfl⟩
                go_wp2
                exact ⟨⟨k + 1, by omega, by go_num, lt_step ht.out (.inr G1.out)⟩, by simp [intOf]; omega⟩
              · have H := Lib.hid (show ¬ NameOk s from fun h => (h.all k hlt).elim G0.out g1)
                have G1 := Lib.hid g1; clear g1
                go_wp2_with fail
                rw [← hB.out]
                refine (l01Small_any false _ _ (noB G0.out)).mono ?_
                rintro e w1 ⟨rfl, rfl⟩
                go_wp2_with fail
                rw [← hB.out]
                refine (l01Digit_any false _ _ (noB G1.out)).mono ?_
                rintro e w1 ⟨rfl, rfl⟩
                go_wp2
                go_ret
                exact ⟨ret_bool (finName (by simpa using H.out)), rfl⟩
          · have H := Lib.hid (show NameOk s from ⟨e1, e2, E3.out, fun i hi => ht.out i (by omega)⟩)
            go_wp2
            go_ret
            exact ⟨ret_bool (finName (by simpa using H.out)), rfl⟩
      · have E3 := Lib.hid e3; clear e3
        go_enter Tryz.func108, Tryz.ntmps108
        go_wp2_with fail
        rw [← byteAt_eq s 0 e1]
        refine (l01Small_any false _ _ (noB E3.out)).mono ?_
        rintro e w1 ⟨rfl, rfl⟩
        go_wp2
        go_ret
        exact ⟨ret_bool (finName (by simpa using fun h : NameOk s => E3.out h.first)), rfl⟩
    · have d2 : decide ((10 : Int) < (s.size : Int)) = true := by simp; omega
      have E2 := Lib.hid e2; clear e2
      go_enter Tryz.func108, Tryz.ntmps108
      go_wp2
      go_ret
      exact ⟨ret_bool (finName (by simpa using fun h : NameOk s => E2.out h.len)), rfl⟩
  · have n1 : s.toList = [] := str_empty e1
    have E1 := Lib.hid e1; clear e1
    go_enter Tryz.func108, Tryz.ntmps108
    go_wp2
    go_ret
    exact ⟨ret_bool (finName (by simpa using fun h : NameOk s => E1.out h.pos)), rfl⟩

theorem name_no {s : ByteArray} {k : Nat} {c : Int} (hk : k < s.size) (h : byteAt s k = c) (hn : ¬ ((97 ≤ c ∧ c ≤ 122) ∨ (¬ k = 0 ∧ 48 ≤ c ∧ c ≤ 57))) : ¬ NameOk s := fun ok => by
  by_cases h0 : k = 0
  · subst h0; have := ok.first; rw [h] at this; exact hn (.inl this)
  · rcases ok.all k hk with h1 | h1 <;> rw [h] at h1
    · exact hn (.inl h1)
    · exact hn (.inr ⟨h0, h1⟩)
theorem name_step {s : ByteArray} {k : Nat} {c : Int} (h : byteAt s k = c) (hn : (97 ≤ c ∧ c ≤ 122) ∨ (¬ k = 0 ∧ 48 ≤ c ∧ c ≤ 57)) : (k = 0 → smallC (byteAt s 0)) ∧ (smallC (byteAt s k) ∨ digitC (byteAt s k)) := by
  subst h
  refine ⟨fun h0 => ?_, ?_⟩
  · subst h0; rcases hn with h | ⟨h, _⟩
    · exact h
    · exact absurd rfl h
  · rcases hn with h | ⟨_, h⟩
    · exact .inl h
    · exact .inr h

set_option maxRecDepth 100000 in
set_option maxHeartbeats 1000000 in
theorem isName_any (s : ByteArray) (w : World) (hs : s.size ≤ maxLen) :
    Calls Tryz.prog 118 #[.string s] w fun e w' => e = .returned (.bool (decide (NameOk s))) ∧ Below w.heap.size w w' := by
  unfold maxLen at hs
  by_cases e1 : 0 < s.size
  · by_cases e2 : s.size ≤ 10
    · have d1 : decide ((s.size : Int) < 1) = false := by simp; omega
      have d2 : decide ((10 : Int) < (s.size : Int)) = false := by simp; omega
      have hconv := run_bytes_of_string (P := Tryz.prog) w 9 161 5 s Tryz.underlying9 Tryz.underlying161 Tryz.underlying5
      have hz : s.size ≤ grownCap w s.size 0 5 := grownCap_ge w _ _ _
      have hcell : ∀ k, k < s.size → (w.drew.alloc (.cells (bytesRow s (grownCap w s.size 0 5)) 5 ((bytesRow s (grownCap w s.size 0 5)).size, (bytesRow s (grownCap w s.size 0 5)).size + 1))).cell? ⟨w.heap.size, k, none⟩ = some (.int .u8 (byteAt s k)) := fun k hk => by
        rw [byteAt_eq s k hk]
        exact (World.cell?_alloc_mark _ _ _ _ k).trans (bytesRow_at s _ k hk)
      have HC := Lib.hid hcell; clear hcell
      generalize grownCap w s.size 0 5 = cap at hconv hz HC
      generalize (bytesRow s cap) = row at hconv HC
      go_enter Tryz.func118, Tryz.ntmps118
      go_wp2
      go_loopw [18] (fun i wr => ∃ k : Nat, k ≤ s.size ∧ i = .int .i64 k ∧ (∀ i, i < k → (i = 0 → smallC (byteAt s 0)) ∧ (smallC (byteAt s i) ∨ digitC (byteAt s i))) ∧ (∀ k, k < s.size → wr.cell? ⟨w.heap.size, k, none⟩ = some (.int .u8 (byteAt s k))) ∧ Below w.heap.size w wr) (fun i _ => s.size - (intOf i).toNat)
      case atStart =>
        refine ⟨0, Nat.zero_le _, rfl, by intro i h; omega, HC.out, ?_⟩
        exact ((Below.refl _ _).drew).alloc (Nat.le_refl _) _
      case round =>
        clear hconv
        obtain ⟨k, hk, rfl, ht', hcl, hb⟩ := hrel
        have ht := Lib.hid ht'; clear ht'
        have HC2 := Lib.hid hcl
        by_cases hlt : k < s.size
        · have hck := hcl k hlt
          clear hcl
          generalize hc : byteAt s k = c at hck
          have C := Lib.hid hc; clear hc
          by_cases s1 : 97 ≤ c <;> by_cases s2 : c ≤ 122 <;> by_cases s3 : 48 ≤ c <;> by_cases s4 : c ≤ 57 <;> by_cases s0 : k = 0
          all_goals
            first
              | (exfalso; omega)
              | skip
          all_goals
            have S1 := Lib.hid s1; have S2 := Lib.hid s2; have S3 := Lib.hid s3; have S4 := Lib.hid s4; have S0 := Lib.hid s0
            first | have d1 : decide (97 ≤ c) = true := by simpa using s1
                  | have d1 : decide (97 ≤ c) = false := by simpa using s1
            first | have d2 : decide (c ≤ 122) = true := by simpa using s2
                  | have d2 : decide (c ≤ 122) = false := by simpa using s2
            first | have d3 : decide (48 ≤ c) = true := by simpa using s3
                  | have d3 : decide (48 ≤ c) = false := by simpa using s3
            first | have d4 : decide (c ≤ 57) = true := by simpa using s4
                  | have d4 : decide (c ≤ 57) = false := by simpa using s4
            first | have d0 : ((k : Int) == 0) = true := by simpa using s0
                  | have d0 : ((k : Int) == 0) = false := by simpa using s0
            clear s1 s2 s3 s4 s0
            go_wp2
          all_goals
            have s1 := S1.out; have s2 := S2.out; have s3 := S3.out; have s4 := S4.out; have s0 := S0.out
            first
              | (go_ret
                 exact ⟨ret_bool (finName (by simpa using name_no hlt C.out (by omega))), hb⟩)
              | (go_roundw
                 case rel => exact ⟨k + 1, by omega, by go_num, lt_step ht.out (name_step C.out (by omega)), HC2.out, hb⟩
                 case measure => simp [intOf]; omega)
        · have hall := ht.out
          have H := Lib.hid (show NameOk s from ⟨e1, e2, (hall 0 (by omega)).1 rfl, fun i hi => (hall i (by omega)).2⟩)
          go_wp2
          go_ret
          exact ⟨ret_bool (finName (by simpa using H.out)), hb⟩
    · have d1 : decide ((s.size : Int) < 1) = false := by simp; omega
      have d2 : decide ((10 : Int) < (s.size : Int)) = true := by simp; omega
      have E2 := Lib.hid e2; clear e2
      go_enter Tryz.func118, Tryz.ntmps118
      go_wp2
      go_ret
      exact ⟨ret_bool (finName (by simpa using fun h : NameOk s => E2.out h.len)), Below.refl _ _⟩
  · have d1 : decide ((s.size : Int) < 1) = true := by simp; omega
    have E1 := Lib.hid e1; clear e1
    go_enter Tryz.func118, Tryz.ntmps118
    go_wp2
    go_ret
    exact ⟨ret_bool (finName (by simpa using fun h : NameOk s => E1.out h.pos)), Below.refl _ _⟩

end Go.Proofs.YtenedpboehkmjaaGreat
/- Contract of l00Rises. -/
set_option linter.unusedSimpArgs false
set_option linter.unnecessarySimpa false
set_option linter.unusedVariables false
namespace Go.Proofs.YtenedpboehkmjaaGreat
open Go.RowKit

/-- The number at k is within bounds and above the one before it. -/
def RiseAt (lo hi : Int) (xs : List Int) (k : Nat) : Prop := lo ≤ xs.getD k 0 ∧ xs.getD k 0 ≤ hi ∧ (k = 0 ∨ xs.getD (k - 1) 0 < xs.getD k 0)
def Rises (lo hi : Int) (xs : List Int) : Prop := ∀ k, k < xs.length → RiseAt lo hi xs k
instance (lo hi : Int) (xs : List Int) (k : Nat) : Decidable (RiseAt lo hi xs k) := by unfold RiseAt; infer_instance
instance (lo hi : Int) (xs : List Int) : Decidable (Rises lo hi xs) := by unfold Rises; infer_instance

theorem rises_step {lo hi : Int} {xs : List Int} {k : Nat} (h : ∀ i, i < k → RiseAt lo hi xs i) (hk : RiseAt lo hi xs k) : ∀ i, i < k + 1 → RiseAt lo hi xs i := fun i hi => by
  by_cases e : i = k
  · rw [e]; exact hk
  · exact h i (by omega)

set_option maxHeartbeats 400000 in
theorem l00Rises_any (v : Value) (lo hi : Int) (xs : List Int) (w : World) (h1 : Ints w v xs) :
    Calls Tryz.prog 106 #[v, .int .i64 lo, .int .i64 hi] w fun e w' => e = .returned (.bool (decide (Rises lo hi xs))) ∧ Q w w' := by
  obtain ⟨a, ca, rfl, hca, hcm, _⟩ := id h1
  have hm : xs.length ≤ maxLen := by omega
  clear hca hcm
  unfold maxLen at hm
  go_enter Tryz.func106, Tryz.ntmps106
  go_wp2
  go_loopw [7] (fun i wr => ∃ k : Nat, k ≤ xs.length ∧ i = .int .i64 k ∧ (∀ i, i < k → RiseAt lo hi xs i) ∧ Q w wr) (fun i _ => xs.length - (intOf i).toNat)
  case atStart => exact ⟨0, Nat.zero_le _, rfl, by intro i h; omega, Q.refl _⟩
  case round =>
    obtain ⟨k, hk, rfl, ht, hq⟩ := hrel
    have HT := Lib.hid ht; clear ht
    by_cases hlt : k < xs.length
    · obtain ⟨b1, o1, rfl, c1⟩ := (h1.q hq).cells (by simp; omega)
      have d1 : wr.cell? ⟨b1, o1 + k, none⟩ = some (.int .i64 xs[k]) := c1 k _ (by simp [hlt])
      have g1 : xs.getD k 0 = xs[k] := by simp [hlt]
      by_cases hin : lo ≤ xs[k] ∧ xs[k] ≤ hi
      · have hin' : true = decide (lo ≤ xs[k] ∧ xs[k] ≤ hi) := by simpa using hin
        have HI := Lib.hid hin'
        have HN := Lib.hid hin
        clear hin' hin
        by_cases h0 : 0 < k
        · have d0 : wr.cell? ⟨b1, o1 + (k - 1), none⟩ = some (.int .i64 xs[k - 1]) := c1 (k - 1) _ (by simp)
          have g0 : xs.getD (k - 1) 0 = xs[k - 1] := by simp [show k - 1 < xs.length by omega]
          have G0 := Lib.hid g0
          have G1 := Lib.hid g1
          clear c1 g0 g1
          have h0' : decide (0 < (k : Int)) = true := by simpa using h0
          have z1 : ((k : Int) - 1).toNat = k - 1 := by omega
          by_cases hr : xs[k - 1] < xs[k]
          · have hr' : decide (xs[k] ≤ xs[k - 1]) = false := by simpa using hr
            go_wp2
            go_quiet ((go_at_call 42; exact Calls.quiet_of_same (l00In_any true _ _ _ _ HI.out)))
            go_wp2
            go_roundw
            case rel => exact ⟨k + 1, by omega, by go_num, rises_step HT.out ⟨by rw [G1.out]; exact HN.out.1, by rw [G1.out]; exact HN.out.2, .inr (by rw [G0.out, G1.out]; exact hr)⟩, hq.drewN _⟩
            case measure => simp [intOf]; omega
          · have hr' : decide (xs[k] ≤ xs[k - 1]) = true := by simpa using hr
            have hno : ¬ Rises lo hi xs := fun h => by have := (h k hlt).2.2; rw [G0.out, G1.out] at this; omega
            have HX := Lib.hid hno; clear hno
            go_wp2
            go_quiet ((go_at_call 42; exact Calls.quiet_of_same (l00In_any true _ _ _ _ HI.out)))
            go_wp2
            go_ret
            exact ⟨ret_bool (by simpa using HX.out), hq.drewN _⟩
        · have h0' : decide (0 < (k : Int)) = false := by simpa using h0
          have G1 := Lib.hid g1
          clear c1 g1
          go_wp2
          go_quiet ((go_at_call 42; exact Calls.quiet_of_same (l00In_any true _ _ _ _ HI.out)))
          go_wp2
          go_roundw
          case rel => exact ⟨k + 1, by omega, by go_num, rises_step HT.out ⟨by rw [G1.out]; exact HN.out.1, by rw [G1.out]; exact HN.out.2, .inl (by omega)⟩, hq.drewN _⟩
          case measure => simp [intOf]; omega
      · have hin' : false = decide (lo ≤ xs[k] ∧ xs[k] ≤ hi) := by simpa using hin
        have HI := Lib.hid hin'
        have hno : ¬ Rises lo hi xs := fun h => by have := h k hlt; unfold RiseAt at this; rw [g1] at this; exact hin ⟨this.1, this.2.1⟩
        have HX := Lib.hid hno
        clear hin' hin hno c1 g1
        go_wp2
        go_quiet ((go_at_call 42; exact Calls.quiet_of_same (l00In_any false _ _ _ _ HI.out)))
        go_wp2
        go_ret
        exact ⟨ret_bool (by simpa using HX.out), hq.drewN _⟩
    · have hall : Rises lo hi xs := fun i hi => HT.out i (by omega)
      have HX := Lib.hid hall; clear hall
      go_wp2
      go_ret
      exact ⟨ret_bool (by simpa using HX.out), hq⟩

end Go.Proofs.YtenedpboehkmjaaGreat
/- Zones: contracts of areZones and l08Zones. -/
set_option linter.unusedSimpArgs false
set_option linter.unnecessarySimpa false
set_option linter.unusedVariables false
set_option maxRecDepth 100000
namespace Go.Proofs.YtenedpboehkmjaaGreat
open Go.RowKit

/-- A list are zones of n rings. -/
def zonesOk (n : Int) (zs : List Int) : Prop := (1 ≤ zs.length ∧ zs.length ≤ 8) ∧ zs.getD 0 0 = 0 ∧ Rises 0 (n - 1) zs
instance (n : Int) (zs : List Int) : Decidable (zonesOk n zs) := by unfold zonesOk; infer_instance
def zoneAt (n : Int) (zs : List Int) (k : Nat) : Prop := (k = 0 ∨ zs.getD (k - 1) 0 < zs.getD k 0) ∧ zs.getD k 0 < n
theorem zone_step {n : Int} {xs : List Int} {k : Nat} (h : ∀ i, i < k → zoneAt n xs i) (hk : zoneAt n xs k) : ∀ i, i < k + 1 → zoneAt n xs i := fun i hi => by
  by_cases e : i = k
  · rw [e]; exact hk
  · exact h i (by omega)
theorem zones_no {n : Int} {zs : List Int} {k : Nat} (hk : k < zs.length) (h : ¬ zoneAt n zs k) : ¬ zonesOk n zs := fun ⟨_, _, hr⟩ => h ⟨(hr k hk).2.2, by have := (hr k hk).2.1; omega⟩
theorem zones_all {n : Int} {zs : List Int} (h : ∀ i, i < zs.length → zoneAt n zs i) (h0 : zs.getD 0 0 = 0) : Rises 0 (n - 1) zs := by
  intro k
  induction k with
  | zero => intro hk; exact ⟨by omega, by have := (h 0 hk).2; omega, .inl rfl⟩
  | succ k ih =>
    intro hk
    have h1 := ih (by omega)
    have h2 := h (k + 1) hk
    have h3 : zs.getD k 0 < zs.getD (k + 1) 0 := by rcases h2.1 with e | e; omega; exact e
    exact ⟨by have := h1.1; omega, by have := h2.2; omega, .inr h3⟩

theorem sizeIZ_any (a : Option Addr) (n c : Nat) (w : World) : Calls Tryz.prog 131 #[.slice a n c] w fun e w' => e = .returned (.int .i64 n) ∧ w' = w := by
  go_enter Tryz.func131, Tryz.ntmps131
  go_wp2
  go_ret
  exact ⟨rfl, rfl⟩
set_option maxHeartbeats 1000000 in
theorem areZones_any (r : Bool) (v : Value) (zs : List Int) (n : Int) (w : World) (h1 : Ints w v zs) (hr : r = decide (zonesOk n zs)) :
    Calls Tryz.prog 114 #[v, .int .i64 n] w fun e w' => e = .returned (.bool r) ∧ w' = w := by
  obtain ⟨a, ca, rfl, hca, hcm, _⟩ := id h1
  have hm : zs.length ≤ maxLen := by omega
  clear hca hcm
  unfold maxLen at hm
  have HR := Lib.hid hr
  clear hr
  go_enter Tryz.func114, Tryz.ntmps114
  go_wp2
  go_loopw [5, 6, 9] (fun _ _ i wr => ∃ k : Nat, k ≤ zs.length ∧ i = .int .i64 (k : Int) ∧ (∀ i, i < k → zoneAt n zs i) ∧ wr = w) (fun _ _ i _ => zs.length - (intOf i).toNat)
  case atStart => exact ⟨0, Nat.zero_le _, by go_num, by intro i h; omega, rfl⟩
  case round =>
    obtain ⟨k, hk, rfl, ht, rfl⟩ := hrel
    have HT := Lib.hid ht; clear ht
    by_cases hlt : k < zs.length
    · obtain ⟨b1, o1, rfl, c1⟩ := h1.cells (by simp; omega)
      have d1 : wr.cell? ⟨b1, o1 + k, none⟩ = some (.int .i64 zs[k]) := c1 k _ (by simp [hlt])
      have g1 : zs.getD k 0 = zs[k] := by simp [hlt]
      obtain ⟨x, hx⟩ : ∃ x, x = zs[k] := ⟨_, rfl⟩
      rw [← hx] at d1 g1
      clear hx
      by_cases h0 : 0 < k
      · have d0 : wr.cell? ⟨b1, o1 + (k - 1), none⟩ = some (.int .i64 zs[k - 1]) := c1 (k - 1) _ (by simp)
        have g0 : zs.getD (k - 1) 0 = zs[k - 1] := by simp [show k - 1 < zs.length by omega]
        obtain ⟨y, hy⟩ : ∃ y, y = zs[k - 1] := ⟨_, rfl⟩
        rw [← hy] at d0 g0
        have G0 := Lib.hid g0
        have G1 := Lib.hid g1
        clear c1 g0 g1 hy
        have h0' : decide (0 < (k : Int)) = true := by simpa using h0
        have z1 : ((k : Int) - 1).toNat = k - 1 := by omega
        by_cases hr : y < x
        · have hr' : decide (x ≤ y) = false := by simpa using hr
          by_cases hn : x < n
          · have hn' : decide (n ≤ x) = false := by simpa using hn
            have HZ := Lib.hid (show zoneAt n zs k from ⟨.inr (by rw [G0.out, G1.out]; exact hr), by rw [G1.out]; exact hn⟩)
            go_wp2
            go_roundw
            case rel => exact ⟨k + 1, by omega, by go_num, zone_step HT.out HZ.out, trivial⟩
            case measure => simp [intOf]; omega
          · have hn' : decide (n ≤ x) = true := by simpa using hn
            have HX := Lib.hid (show r = false by rw [HR.out]; exact decide_eq_false (zones_no hlt (fun h => hn (by rw [← G1.out]; exact h.2))))
            go_wp2
            go_ret
            exact ⟨by rw [HX.out]; rfl, rfl⟩
        · have hr' : decide (x ≤ y) = true := by simpa using hr
          have HX := Lib.hid (show r = false by rw [HR.out]; exact decide_eq_false (zones_no hlt (fun h => hr (by rw [← G0.out, ← G1.out]; rcases h.1 with e | e; omega; exact e))))
          go_wp2
          go_ret
          exact ⟨by rw [HX.out]; rfl, rfl⟩
      · have h0' : decide (0 < (k : Int)) = false := by simpa using h0
        have G1 := Lib.hid g1
        clear c1 g1
        by_cases hn : x < n
        · have hn' : decide (n ≤ x) = false := by simpa using hn
          have HZ := Lib.hid (show zoneAt n zs k from ⟨.inl (by omega), by rw [G1.out]; exact hn⟩)
          go_wp2
          go_roundw
          case rel => exact ⟨k + 1, by omega, by go_num, zone_step HT.out HZ.out, trivial⟩
          case measure => simp [intOf]; omega
        · have hn' : decide (n ≤ x) = true := by simpa using hn
          have HX := Lib.hid (show r = false by rw [HR.out]; exact decide_eq_false (zones_no hlt (fun h => hn (by rw [← G1.out]; exact h.2))))
          go_wp2
          go_ret
          exact ⟨by rw [HX.out]; rfl, rfl⟩
    · have HA := Lib.hid (show ∀ i, i < zs.length → zoneAt n zs i from fun i hi => HT.out i (by omega))
      obtain ⟨b, hb⟩ : ∃ b, b = decide ((1 : Int) ≤ (zs.length : Int) ∧ (zs.length : Int) ≤ 8) := ⟨_, rfl⟩
      have HBB := Lib.hid hb
      clear hb
      go_wp2_with fail
      refine (sizeIZ_any _ zs.length _ _).mono ?_
      rintro e w1 ⟨rfl, rfl⟩
      go_wp2_with fail
      refine (within_any b (zs.length : Int) 1 8 _ HBB.out).mono ?_
      rintro e w2 ⟨rfl, rfl⟩
      cases b
      · have HX := Lib.hid (show r = false by rw [HR.out]; exact decide_eq_false (fun h => by have h2 := HBB.out.symm; rw [decide_eq_false_iff_not] at h2; exact h2 ⟨by have := h.1.1; omega, by have := h.1.2; omega⟩))
        go_wp2
        go_ret
        exact ⟨by rw [HX.out]; rfl, rfl⟩
      · have h2 := of_decide_eq_true HBB.out.symm
        obtain ⟨b1, o1, rfl, c1⟩ := h1.cells (by simp; omega)
        have d1 := c1 0 (.int .i64 (zs.getD 0 0)) (by cases zs with | nil => simp at h2 | cons x xs => rfl)
        obtain ⟨y, hy⟩ : ∃ y, y = zs.getD 0 0 := ⟨_, rfl⟩
        rw [← hy, Nat.add_zero] at d1
        have HY := Lib.hid hy
        have hp : 0 < zs.length := by omega
        have hp' : (0 : Int) < (zs.length : Int) := by omega
        have H2 := Lib.hid h2
        clear hy h2 c1
        by_cases hy0 : y = 0
        · have e0 : (y == 0) = true := by simpa using hy0
          have HX := Lib.hid (show r = true by rw [HR.out]; exact decide_eq_true ⟨⟨by have := H2.out.1; omega, by have := H2.out.2; omega⟩, by rw [← HY.out]; exact hy0, zones_all HA.out (by rw [← HY.out]; exact hy0)⟩)
          go_wp2
          go_ret
          exact ⟨by rw [HX.out]; rfl, rfl⟩
        · have e0 : (y == 0) = false := by simpa using hy0
          have HX := Lib.hid (show r = false by rw [HR.out]; exact decide_eq_false (fun h => hy0 (by rw [HY.out]; exact h.2.1)))
          go_wp2
          go_ret
          exact ⟨by rw [HX.out]; rfl, rfl⟩

set_option maxHeartbeats 1000000 in
theorem l08Zones_any (r : Bool) (v : Value) (zs : List Int) (w : World) (h1 : Ints w v zs) (hr : r = decide (zonesOk 32 zs)) :
    Calls Tryz.prog 107 #[v] w fun e w' => e = .returned (.bool r) ∧ Q w w' := by
  obtain ⟨a, ca, rfl, hca, hcm, _⟩ := id h1
  have hm : zs.length ≤ maxLen := by omega
  clear hca hcm
  unfold maxLen at hm
  have HR := Lib.hid hr
  have H1 := Lib.hid h1
  clear hr
  by_cases g1 : 1 ≤ zs.length
  · have e1 : decide ((1 : Int) ≤ (zs.length : Int)) = true := decide_eq_true (by omega)
    have e1' : decide (1 ≤ zs.length) = true := decide_eq_true g1
    by_cases g2 : zs.length ≤ 8
    · have e2 : decide ((zs.length : Int) ≤ 8) = true := decide_eq_true (by omega)
      have e2' : decide (zs.length ≤ 8) = true := decide_eq_true g2
      obtain ⟨b1, o1, rfl, c1⟩ := h1.cells (by simp; omega)
      have d1 := c1 0 (.int .i64 (zs.getD 0 0)) (by cases zs with | nil => simp at g1 | cons x xs => rfl)
      obtain ⟨y, hy⟩ : ∃ y, y = zs.getD 0 0 := ⟨_, rfl⟩
      rw [← hy, Nat.add_zero] at d1
      have HY := Lib.hid hy
      have hp : 0 < zs.length := by omega
      have hp' : (0 : Int) < (zs.length : Int) := by omega
      clear hy c1
      by_cases g3 : y = 0
      · have e3 : (y == 0) = true := by simpa using g3
        have HG := Lib.hid (show (1 ≤ zs.length ∧ zs.length ≤ 8) ∧ zs.getD 0 0 = 0 from ⟨⟨g1, g2⟩, by rw [← HY.out]; exact g3⟩)
        clear g1 g2 g3 h1
        go_enter Tryz.func107, Tryz.ntmps107
        go_wp2_with fail
        refine (l00Rises_any _ 0 31 zs _ H1.out).mono ?_
        rintro e w1 ⟨rfl, hq⟩
        have HX := Lib.hid (show decide (Rises 0 31 zs) = r by
          rw [HR.out]; unfold zonesOk
          by_cases g : Rises 0 31 zs
          · rw [decide_eq_true g]; exact (decide_eq_true ⟨HG.out.1, HG.out.2, g⟩).symm
          · rw [decide_eq_false g]; exact (decide_eq_false (fun h => g h.2.2)).symm)
        rw [HX.out]
        go_wp2
        go_ret
        exact ⟨rfl, hq⟩
      · have e3 : (y == 0) = false := by simpa using g3
        have HX := Lib.hid (show r = false by rw [HR.out]; exact decide_eq_false (fun h => by unfold zonesOk at h; exact g3 (by rw [HY.out]; exact h.2.1)))
        go_enter Tryz.func107, Tryz.ntmps107
        go_wp2
        go_ret
        exact ⟨by rw [HX.out]; rfl, Q.refl _⟩
    · have e2 : decide ((zs.length : Int) ≤ 8) = false := decide_eq_false (by omega)
      have e2' : decide (zs.length ≤ 8) = false := decide_eq_false g2
      have HX := Lib.hid (show r = false by rw [HR.out]; exact decide_eq_false (fun h => by unfold zonesOk at h; exact g2 h.1.2))
      go_enter Tryz.func107, Tryz.ntmps107
      go_wp2
      go_ret
      exact ⟨by rw [HX.out]; rfl, Q.refl _⟩
  · have e1 : decide ((1 : Int) ≤ (zs.length : Int)) = false := decide_eq_false (by omega)
    have e1' : decide (1 ≤ zs.length) = false := decide_eq_false g1
    have HX := Lib.hid (show r = false by rw [HR.out]; exact decide_eq_false (fun h => by unfold zonesOk at h; exact g1 h.1.1))
    go_enter Tryz.func107, Tryz.ntmps107
    go_wp2
    go_ret
    exact ⟨by rw [HX.out]; rfl, Q.refl _⟩
end Go.Proofs.YtenedpboehkmjaaGreat
