import Derived.Test.YtemmnjokojgjaaaChecked
import Derived.Test.YtemmnjokojgjaaaFfZ1
import Derived.Test.YtemmnjokojgjaaaFfZ3
import Derived.Test.YtemmnjokojgjaaaFfZ2
/- Contracts of l01Name and IsName. -/
set_option linter.unusedSimpArgs false
set_option linter.unnecessarySimpa false
set_option linter.unusedVariables false
namespace Go.Proofs.Ytemmnjokojgjaaa
open Go.RowKit

def smallC (c : Int) : Prop := 97 ≤ c ∧ c ≤ 122
def digitC (c : Int) : Prop := 48 ≤ c ∧ c ≤ 57
instance (c : Int) : Decidable (smallC c) := by unfold smallC; infer_instance
instance (c : Int) : Decidable (digitC c) := by unfold digitC; infer_instance

/-- The byte at k, as a number. -/
def byteAt (s : ByteArray) (k : Nat) : Int := ((s.data.toList.getD k 0).toNat : Int)
theorem byteAt_eq (s : ByteArray) (k : Nat) (h : k < s.size) : byteAt s k = (s[k].toNat : Int) := by
  have h' : k < s.data.toList.length := by simpa using h
  unfold byteAt
  rw [List.getD_eq_getElem?_getD, List.getElem?_eq_getElem h']
  rfl

theorem str_nonempty {s : ByteArray} (h : 0 < s.size) : s.toList.isEmpty = false := by
  rw [ByteArray.toList_eq]
  cases hl : s.data.toList with
  | nil => have := congrArg List.length hl; simp at this; have e : s.size = s.data.size := rfl; rw [e, this] at h; simp at h
  | cons a l => rfl
theorem str_empty {s : ByteArray} (h : ¬ 0 < s.size) : s.toList = [] := by
  rw [ByteArray.toList_eq]
  have e : s.size = s.data.size := rfl
  cases hl : s.data.toList with
  | nil => rfl
  | cons a l => have := congrArg List.length hl; simp at this; omega

structure NameOk (s : ByteArray) : Prop where
  pos : 0 < s.size
  len : s.size ≤ 10
  first : smallC (byteAt s 0)
  all : ∀ i, i < s.size → smallC (byteAt s i) ∨ digitC (byteAt s i)
theorem NameOk.iff' (s : ByteArray) : NameOk s ↔ 0 < s.size ∧ s.size ≤ 10 ∧ smallC (byteAt s 0) ∧ ∀ i, i < s.size → smallC (byteAt s i) ∨ digitC (byteAt s i) :=
  ⟨fun h => ⟨h.1, h.2, h.3, h.4⟩, fun h => ⟨h.1, h.2.1, h.2.2.1, h.2.2.2⟩⟩
instance (s : ByteArray) : Decidable (NameOk s) := decidable_of_iff' _ (NameOk.iff' s)
theorem finName {s : ByteArray} {b : Bool} (h : NameOk s ↔ b = true) : b = decide (NameOk s) := by cases b <;> simp at h ⊢ <;> exact h

theorem l01Small_any (b : Bool) (c : Int) (w : World) (h : b = decide (smallC c)) :
    Calls Try.prog 107 #[.int .u8 c] w fun e w' => e = .returned (.bool b) ∧ w' = w := by
  by_cases h1 : 97 ≤ c <;> by_cases h2 : c ≤ 122
  all_goals
    have H := Lib.hid h
    clear h
    first | have d1 : decide (97 ≤ c) = true := by simpa using h1
          | have d1 : decide (97 ≤ c) = false := by simpa using h1
    first | have d2 : decide (c ≤ 122) = true := by simpa using h2
          | have d2 : decide (c ≤ 122) = false := by simpa using h2
    go_enter Try.func107, Try.ntmps107
    go_wp2
    go_ret
    exact ⟨ret_bool (by rw [H.out]; first | exact yesB (by unfold smallC; omega) | exact noB (by unfold smallC; omega)), rfl⟩
theorem l01Digit_any (b : Bool) (c : Int) (w : World) (h : b = decide (digitC c)) :
    Calls Try.prog 108 #[.int .u8 c] w fun e w' => e = .returned (.bool b) ∧ w' = w := by
  by_cases h1 : 48 ≤ c <;> by_cases h2 : c ≤ 57
  all_goals
    have H := Lib.hid h
    clear h
    first | have d1 : decide (48 ≤ c) = true := by simpa using h1
          | have d1 : decide (48 ≤ c) = false := by simpa using h1
    first | have d2 : decide (c ≤ 57) = true := by simpa using h2
          | have d2 : decide (c ≤ 57) = false := by simpa using h2
    go_enter Try.func108, Try.ntmps108
    go_wp2
    go_ret
    exact ⟨ret_bool (by rw [H.out]; first | exact yesB (by unfold digitC; omega) | exact noB (by unfold digitC; omega)), rfl⟩

set_option maxHeartbeats 1000000 in
theorem l01Name_any (s : ByteArray) (w : World) (hs : s.size ≤ maxLen) :
    Calls Try.prog 88 #[.string s] w fun e w' => e = .returned (.bool (decide (NameOk s))) ∧ w' = w := by
  unfold maxLen at hs
  by_cases e1 : 0 < s.size
  · have n1 : s.toList.isEmpty = false := str_nonempty e1
    by_cases e2 : s.size ≤ 10
    · have d2 : decide ((10 : Int) < (s.size : Int)) = false := by simp; omega
      by_cases e3 : smallC (byteAt s 0)
      · have E3 := Lib.hid e3; clear e3
        go_enter Try.func88, Try.ntmps88
        go_wp2_with fail
        rw [← byteAt_eq s 0 e1]
        refine (l01Small_any true _ _ (yesB E3.out)).mono ?_
        rintro e w1 ⟨rfl, rfl⟩
        go_wp2_with fail
        go_loop [3] (fun i => ∃ k : Nat, k ≤ s.size ∧ i = .int .i64 k ∧ (∀ i, i < k → smallC (byteAt s i) ∨ digitC (byteAt s i))) (fun i => s.size - (intOf i).toNat)
        case atStart => exact ⟨0, Nat.zero_le _, rfl, by intro i h; omega⟩
        case round =>
          obtain ⟨k, hk, rfl, ht'⟩ := hrel
          have ht := Lib.hid ht'; clear ht'
          by_cases hlt : k < s.size
          · have hB := Lib.hid (byteAt_eq s k hlt)
            by_cases g0 : smallC (byteAt s k)
            · have G0 := Lib.hid g0; clear g0
              go_wp2_with fail
              rw [← hB.out]
              refine (l01Small_any true _ _ (yesB G0.out)).mono ?_
              rintro e w1 ⟨rfl, rfl⟩
              go_wp2
              exact ⟨⟨k + 1, by omega, by go_num, lt_step ht.out (.inl G0.out)⟩, by simp [intOf]; omega⟩
            · have G0 := Lib.hid g0; clear g0
              by_cases g1 : digitC (byteAt s k)
              · have G1 := Lib.hid g1; clear g1
                go_wp2_with fail
                rw [← hB.out]
                refine (l01Small_any false _ _ (noB G0.out)).mono ?_
                rintro e w1 ⟨rfl, rfl⟩
                go_wp2_with fail
                rw [← hB.out]
                refine (l01Digit_any true _ _ (yesB G1.out)).mono ?_
                rintro e w1 ⟨rfl, rfl⟩
                go_wp2
                exact ⟨⟨k + 1, by omega, by go_num, lt_step ht.out (.inr G1.out)⟩, by simp [intOf]; omega⟩
              · have H := Lib.hid (show ¬ NameOk s from fun h => (h.all k hlt).elim G0.out g1)
                have G1 := Lib.hid g1; clear g1
                go_wp2_with fail
                rw [← hB.out]
                refine (l01Small_any false _ _ (noB G0.out)).mono ?_
                rintro e w1 ⟨rfl, rfl⟩
                go_wp2_with fail
                rw [← hB.out]
                refine (l01Digit_any false _ _ (noB G1.out)).mono ?_
                rintro e w1 ⟨rfl, rfl⟩
                go_wp2
                go_ret
                exact ⟨ret_bool (finName (by simpa using H.out)), rfl⟩
          · have H := Lib.hid (show NameOk s from ⟨e1, e2, E3.out, fun i hi => ht.out i (by omega)⟩)
            go_wp2
            go_ret
            exact ⟨ret_bool (finName (by simpa using H.out)), rfl⟩
      · have E3 := Lib.hid e3; clear e3
        go_enter Try.func88, Try.ntmps88
        go_wp2_with fail
        rw [← byteAt_eq s 0 e1]
        refine (l01Small_any false _ _ (noB E3.out)).mono ?_
        rintro e w1 ⟨rfl, rfl⟩
        go_wp2
        go_ret
        exact ⟨ret_bool (finName (by simpa using fun h : NameOk s => E3.out h.first)), rfl⟩
    · have d2 : decide ((10 : Int) < (s.size : Int)) = true := by simp; omega
      have E2 := Lib.hid e2; clear e2
      go_enter Try.func88, Try.ntmps88
      go_wp2
      go_ret
      exact ⟨ret_bool (finName (by simpa using fun h : NameOk s => E2.out h.len)), rfl⟩
  · have n1 : s.toList = [] := str_empty e1
    have E1 := Lib.hid e1; clear e1
    go_enter Try.func88, Try.ntmps88
    go_wp2
    go_ret
    exact ⟨ret_bool (finName (by simpa using fun h : NameOk s => E1.out h.pos)), rfl⟩

theorem name_no {s : ByteArray} {k : Nat} {c : Int} (hk : k < s.size) (h : byteAt s k = c) (hn : ¬ ((97 ≤ c ∧ c ≤ 122) ∨ (¬ k = 0 ∧ 48 ≤ c ∧ c ≤ 57))) : ¬ NameOk s := fun ok => by
  by_cases h0 : k = 0
  · subst h0; have := ok.first; rw [h] at this; exact hn (.inl this)
  · rcases ok.all k hk with h1 | h1 <;> rw [h] at h1
    · exact hn (.inl h1)
    · exact hn (.inr ⟨h0, h1⟩)
theorem name_step {s : ByteArray} {k : Nat} {c : Int} (h : byteAt s k = c) (hn : (97 ≤ c ∧ c ≤ 122) ∨ (¬ k = 0 ∧ 48 ≤ c ∧ c ≤ 57)) : (k = 0 → smallC (byteAt s 0)) ∧ (smallC (byteAt s k) ∨ digitC (byteAt s k)) := by
  subst h
  refine ⟨fun h0 => ?_, ?_⟩
  · subst h0; rcases hn with h | ⟨h, _⟩
    · exact h
    · exact absurd rfl h
  · rcases hn with h | ⟨_, h⟩
    · exact .inl h
    · exact .inr h

set_option maxRecDepth 100000 in
set_option maxHeartbeats 1000000 in
theorem isName_any (s : ByteArray) (w : World) (hs : s.size ≤ maxLen) :
    Calls Try.prog 103 #[.string s] w fun e w' => e = .returned (.bool (decide (NameOk s))) ∧ Below w.heap.size w w' := by
  unfold maxLen at hs
  by_cases e1 : 0 < s.size
  · by_cases e2 : s.size ≤ 10
    · have d1 : decide ((s.size : Int) < 1) = false := by simp; omega
      have d2 : decide ((10 : Int) < (s.size : Int)) = false := by simp; omega
      have hconv := run_bytes_of_string (P := Try.prog) w 9 44 5 s Try.underlying9 Try.underlying44 Try.underlying5
      have hz : s.size ≤ grownCap w s.size 0 5 := grownCap_ge w _ _ _
      have hcell : ∀ k, k < s.size → (w.drew.alloc (.cells (bytesRow s (grownCap w s.size 0 5)) 5 ((bytesRow s (grownCap w s.size 0 5)).size, (bytesRow s (grownCap w s.size 0 5)).size + 1))).cell? ⟨w.heap.size, k, none⟩ = some (.int .u8 (byteAt s k)) := fun k hk => by
        rw [byteAt_eq s k hk]
        exact (World.cell?_alloc_mark _ _ _ _ k).trans (bytesRow_at s _ k hk)
      have HC := Lib.hid hcell; clear hcell
      generalize grownCap w s.size 0 5 = cap at hconv hz HC
      generalize (bytesRow s cap) = row at hconv HC
      go_enter Try.func103, Try.ntmps103
      go_wp2
      go_loopw [18] (fun i wr => ∃ k : Nat, k ≤ s.size ∧ i = .int .i64 k ∧ (∀ i, i < k → (i = 0 → smallC (byteAt s 0)) ∧ (smallC (byteAt s i) ∨ digitC (byteAt s i))) ∧ (∀ k, k < s.size → wr.cell? ⟨w.heap.size, k, none⟩ = some (.int .u8 (byteAt s k))) ∧ Below w.heap.size w wr) (fun i _ => s.size - (intOf i).toNat)
      case atStart =>
        refine ⟨0, Nat.zero_le _, rfl, by intro i h; omega, HC.out, ?_⟩
        exact ((Below.refl _ _).drew).alloc (Nat.le_refl _) _
      case round =>
        clear hconv
        obtain ⟨k, hk, rfl, ht', hcl, hb⟩ := hrel
        have ht := Lib.hid ht'; clear ht'
        have HC2 := Lib.hid hcl
        by_cases hlt : k < s.size
        · have hck := hcl k hlt
          clear hcl
          generalize hc : byteAt s k = c at hck
          have C := Lib.hid hc; clear hc
          by_cases s1 : 97 ≤ c <;> by_cases s2 : c ≤ 122 <;> by_cases s3 : 48 ≤ c <;> by_cases s4 : c ≤ 57 <;> by_cases s0 : k = 0
          all_goals
            first
              | (exfalso; omega)
              | skip
          all_goals
            have S1 := Lib.hid s1; have S2 := Lib.hid s2; have S3 := Lib.hid s3; have S4 := Lib.hid s4; have S0 := Lib.hid s0
            first | have d1 : decide (97 ≤ c) = true := by simpa using s1
                  | have d1 : decide (97 ≤ c) = false := by simpa using s1
            first | have d2 : decide (c ≤ 122) = true := by simpa using s2
                  | have d2 : decide (c ≤ 122) = false := by simpa using s2
            first | have d3 : decide (48 ≤ c) = true := by simpa using s3
                  | have d3 : decide (48 ≤ c) = false := by simpa using s3
            first | have d4 : decide (c ≤ 57) = true := by simpa using s4
                  | have d4 : decide (c ≤ 57) = false := by simpa using s4
            first | have d0 : ((k : Int) == 0) = true := by simpa using s0
                  | have d0 : ((k : Int) == 0) = false := by simpa using s0
            clear s1 s2 s3 s4 s0
            go_wp2
          all_goals
            have s1 := S1.out; have s2 := S2.out; have s3 := S3.out; have s4 := S4.out; have s0 := S0.out
            first
              | (go_ret
                 exact ⟨ret_bool (finName (by simpa using name_no hlt C.out (by omega))), hb⟩)
              | (go_roundw
                 case rel => exact ⟨k + 1, by omega, by go_num, lt_step ht.out (name_step C.out (by omega)), HC2.out, hb⟩
                 case measure => simp [intOf]; omega)
        · have hall := ht.out
          have H := Lib.hid (show NameOk s from ⟨e1, e2, (hall 0 (by omega)).1 rfl, fun i hi => (hall i (by omega)).2⟩)
          go_wp2
          go_ret
          exact ⟨ret_bool (finName (by simpa using H.out)), hb⟩
    · have d1 : decide ((s.size : Int) < 1) = false := by simp; omega
      have d2 : decide ((10 : Int) < (s.size : Int)) = true := by simp; omega
      have E2 := Lib.hid e2; clear e2
      go_enter Try.func103, Try.ntmps103
      go_wp2
      go_ret
      exact ⟨ret_bool (finName (by simpa using fun h : NameOk s => E2.out h.len)), Below.refl _ _⟩
  · have d1 : decide ((s.size : Int) < 1) = true := by simp; omega
    have E1 := Lib.hid e1; clear e1
    go_enter Try.func103, Try.ntmps103
    go_wp2
    go_ret
    exact ⟨ret_bool (finName (by simpa using fun h : NameOk s => E1.out h.pos)), Below.refl _ _⟩

end Go.Proofs.Ytemmnjokojgjaaa
/- Contracts of l25Tone, l25Before, l25Ok and ValidTune of both packages. -/
set_option linter.unusedSimpArgs false
set_option linter.unnecessarySimpa false
set_option linter.unusedVariables false
namespace Go.Proofs.Ytemmnjokojgjaaa
open Go.RowKit

/-- A tone lies in block b from cell off on. -/
structure TonIn (w : World) (b off : Nat) (x : Ton) : Prop where
  lt : b < w.heap.size
  c0 : w.cell? ⟨b, off, none⟩ = some (.int .i64 x.note)
  c1 : w.cell? ⟨b, off + 1, none⟩ = some (.int .i64 x.start)
  c2 : w.cell? ⟨b, off + 2, none⟩ = some (.int .i64 x.len)

set_option maxHeartbeats 1000000 in
theorem l25Tone_any (r : Bool) (b off : Nat) (x : Ton) (w : World) (h : TonIn w b off x) (hr : r = decide (TonOk x)) :
    Calls Try.prog 86 #[.pointer (some ⟨b, off, none⟩)] w fun e w' => e = .returned (.bool r) ∧ Q w w' := by
  obtain ⟨lt, c0, c1, c2⟩ := h
  by_cases e1 : noteOk x.note
  · by_cases e2 : 0 ≤ x.start ∧ x.start ≤ 20000
    · have E1 := Lib.hid e1; have E2 := Lib.hid (yesB e2); have E3 := Lib.hid (show r = decide (1 ≤ x.len ∧ x.len ≤ 20000 - x.start) by subst hr; simp only [TonOk.iff', e1, e2, true_and])
      obtain ⟨u1, u2⟩ := e2
      have hw : IntKind.i64.wrap (20000 - x.start) = 20000 - x.start := IntWalk.i64_in _ (by omega)
      clear hr e1
      go_enter Try.func86, Try.ntmps86
      go_wp2_with fail
      go_quiet (first | (go_at_call 106; exact Calls.quiet_of_same (l03Note_any true _ _ (yesB E1.out))) | (go_at_call 99; first | with_reducible exact Calls.quiet_of_same (l00In_any true _ 0 20000 _ E2.out) | with_reducible exact Calls.quiet_of_same (l00In_any r _ 1 _ _ E3.out)))
      go_wp2
      go_ret
      exact ⟨rfl, _, rfl⟩
    · have E1 := Lib.hid e1; have E2 := Lib.hid (noB e2); have E3 := Lib.hid (show r = false by subst hr; exact decide_eq_false fun h => e2 h.start)
      clear hr e1 e2
      go_enter Try.func86, Try.ntmps86
      go_wp2_with fail
      go_quiet (first | (go_at_call 106; exact Calls.quiet_of_same (l03Note_any true _ _ (yesB E1.out))) | (go_at_call 99; exact Calls.quiet_of_same (l00In_any false _ 0 20000 _ E2.out)))
      go_wp2
      go_ret
      exact ⟨by rw [E3.out]; rfl, _, rfl⟩
  · have E1 := Lib.hid e1; have E3 := Lib.hid (show r = false by subst hr; exact decide_eq_false fun h => e1 h.note)
    clear hr e1
    go_enter Try.func86, Try.ntmps86
    go_wp2_with fail
    go_quiet ((go_at_call 106; exact Calls.quiet_of_same (l03Note_any false _ _ (noB E1.out))))
    go_wp2
    go_ret
    exact ⟨by rw [E3.out]; rfl, _, rfl⟩

set_option maxHeartbeats 1000000 in
theorem l25Before_any (r : Bool) (b off b' off' : Nat) (x y : Ton) (w : World) (h : TonIn w b off x) (h' : TonIn w b' off' y) (hr : r = decide (before x y)) :
    Calls Try.prog 87 #[.pointer (some ⟨b, off, none⟩), .pointer (some ⟨b', off', none⟩)] w fun e w' => e = .returned (.bool r) ∧ Q w w' := by
  obtain ⟨lt, c0, c1, c2⟩ := h
  obtain ⟨lt', c0', c1', c2'⟩ := h'
  by_cases e1 : x.start < y.start
  · have d1 : decide (x.start < y.start) = true := by simpa using e1
    have E := Lib.hid (show r = true by subst hr; exact decide_eq_true (.inl e1))
    clear hr
    go_enter Try.func87, Try.ntmps87
    go_wp2_with fail
    go_quiet (fail)
    go_wp2
    go_ret
    exact ⟨by rw [E.out]; rfl, _, rfl⟩
  · have d1 : decide (x.start < y.start) = false := by simpa using e1
    by_cases e2 : x.start = y.start
    · have d2 : (x.start == y.start) = true := by simpa using e2
      have E := Lib.hid (show r = decide (x.note < y.note) by subst hr; unfold before; simp [e2])
      clear hr e2
      go_enter Try.func87, Try.ntmps87
      go_wp2_with fail
      go_quiet (fail)
      go_wp2
      go_ret
      exact ⟨by rw [E.out]; rfl, _, rfl⟩
    · have d2 : (x.start == y.start) = false := by simpa using e2
      have E := Lib.hid (show r = false by subst hr; exact decide_eq_false fun h => h.elim e1 (fun h => e2 h.1))
      clear hr e2
      go_enter Try.func87, Try.ntmps87
      go_wp2_with fail
      go_quiet (fail)
      go_wp2
      go_ret
      exact ⟨by rw [E.out]; rfl, _, rfl⟩

/-- The tone at k is right, and stands behind the one before it. -/
def TonAt (xs : List Ton) (k : Nat) : Prop := ∀ h : k < xs.length, TonOk xs[k] ∧ (0 < k → before (xs[k - 1]'(by omega)) xs[k])
def TonesOk (xs : List Ton) : Prop := ∀ k, k < xs.length → TonAt xs k
structure TunOk (x : TunD) : Prop where
  name : NameOk x.name
  len : x.tones.length ≤ 128
  tones : TonesOk x.tones
noncomputable instance (x : TunD) : Decidable (TunOk x) := Classical.propDecidable _
noncomputable def validTunB (x : TunD) : Bool := decide (TunOk x)
theorem finTun {x : TunD} {b : Bool} (h : TunOk x ↔ b = true) : b = validTunB x := by cases b <;> simp [validTunB] at h ⊢ <;> exact h

theorem TonIn.of {w : World} {a : Option Addr} {cap : Nat} {xs : List Ton} {k : Nat} (h : Tons w (.slice a xs.length cap) xs) (hk : k < xs.length) : ∃ b off, a = some ⟨b, off, none⟩ ∧ TonIn w b (off + k * 3) xs[k] := by
  obtain ⟨b, off, e, lt, c0, c1, c2⟩ := h.at hk
  exact ⟨b, off, e, lt, c0, c1, c2⟩

/-- A tune lies in block b. -/
structure TunIn (w : World) (b : Nat) (lv : Value) (x : TunD) : Prop where
  c0 : w.cell? ⟨b, 0, none⟩ = some (.string x.name)
  c1 : w.cell? ⟨b, 1, none⟩ = some lv
  tones : Tons w lv x.tones
  name : x.name.size ≤ maxLen

set_option maxHeartbeats 2000000 in
theorem l25Ok_any (b : Nat) (lv : Value) (x : TunD) (w : World) (h : TunIn w b lv x) :
    Calls Try.prog 56 #[.pointer (some ⟨b, 0, none⟩)] w fun e w' => e = .returned (.bool (validTunB x)) ∧ Below w.heap.size w w' := by
  obtain ⟨c0, c1, hlv, hn⟩ := h
  obtain ⟨a, ca, rfl, hca, hcm, _⟩ := id hlv
  have hm : x.tones.length ≤ maxLen := by omega
  clear hca hcm
  unfold maxLen at hm
  go_enter Try.func56, Try.ntmps56
  go_wp2_with fail
  go_loopw [3] (fun i wr => ∃ k : Nat, k ≤ x.tones.length ∧ i = .int .i64 k ∧ (∀ i, i < k → TonAt x.tones i) ∧ Q w wr) (fun i _ => x.tones.length - (intOf i).toNat)
  case atStart => exact ⟨0, Nat.zero_le _, rfl, by intro i h; omega, Q.refl _⟩
  case round =>
    obtain ⟨k, hk, rfl, ht', hq⟩ := hrel
    have ht := Lib.hid ht'; clear ht'
    have u0 := (hq.cell ⟨b, 0, none⟩).trans c0
    have u1 := (hq.cell ⟨b, 1, none⟩).trans c1
    by_cases hlt : k < x.tones.length
    · obtain ⟨b1, o1, rfl, hT⟩ := TonIn.of (hlv.q hq) hlt
      by_cases g : TonOk x.tones[k]
      · by_cases h0 : 0 < k
        · have hk1 : k - 1 < x.tones.length := by omega
          obtain ⟨b2, o2, e2, hT2⟩ := TonIn.of (hlv.q hq) hk1
          simp only [Option.some.injEq, Addr.mk.injEq, and_true] at e2
          obtain ⟨rfl, rfl⟩ := e2
          have z1 : ((k : Int) - 1).toNat = k - 1 := by omega
          have d0 : decide (0 < (k : Int)) = true := by simpa using h0
          by_cases g2 : before x.tones[k - 1] x.tones[k]
          · have G := Lib.hid g; have G2 := Lib.hid g2; clear g g2
            go_wp2_with fail
            go_quiet (first | (go_at_call 86; exact quiet_q (l25Tone_any true _ _ x.tones[k] _ ⟨hT.1, hT.2, hT.3, hT.4⟩ (yesB G.out))) | (go_at_call 87; exact quiet_q (l25Before_any true _ _ _ _ x.tones[k - 1] x.tones[k] _ ⟨hT2.1, hT2.2, hT2.3, hT2.4⟩ ⟨hT.1, hT.2, hT.3, hT.4⟩ (yesB G2.out))))
            go_wp2
            go_roundw
            case rel => exact ⟨k + 1, by omega, by go_num, lt_step ht.out (fun _ => ⟨G.out, fun _ => G2.out⟩), hq.drewN _⟩
            case measure => simp [intOf]; omega
          · have H := Lib.hid (show ¬ TunOk x from fun h => g2 ((h.tones k hlt hlt).2 h0))
            have G := Lib.hid g; have G2 := Lib.hid g2; clear g g2
            go_wp2_with fail
            go_quiet (first | (go_at_call 86; exact quiet_q (l25Tone_any true _ _ x.tones[k] _ ⟨hT.1, hT.2, hT.3, hT.4⟩ (yesB G.out))) | (go_at_call 87; exact quiet_q (l25Before_any false _ _ _ _ x.tones[k - 1] x.tones[k] _ ⟨hT2.1, hT2.2, hT2.3, hT2.4⟩ ⟨hT.1, hT.2, hT.3, hT.4⟩ (noB G2.out))))
            go_wp2
            go_ret
            exact ⟨ret_bool (finTun (by simpa using H.out)), (hq.drewN _).below _⟩
        · have d0 : decide (0 < (k : Int)) = false := by simpa using h0
          have G := Lib.hid g; clear g
          go_wp2_with fail
          go_quiet ((go_at_call 86; exact quiet_q (l25Tone_any true _ _ x.tones[k] _ ⟨hT.1, hT.2, hT.3, hT.4⟩ (yesB G.out))))
          go_wp2
          go_roundw
          case rel => exact ⟨k + 1, by omega, by go_num, lt_step ht.out (fun _ => ⟨G.out, fun h => absurd h h0⟩), hq.drewN _⟩
          case measure => simp [intOf]; omega
      · have H := Lib.hid (show ¬ TunOk x from fun h => g (h.tones k hlt hlt).1)
        have G := Lib.hid g; clear g
        go_wp2_with fail
        go_quiet ((go_at_call 86; exact quiet_q (l25Tone_any false _ _ x.tones[k] _ ⟨hT.1, hT.2, hT.3, hT.4⟩ (noB G.out))))
        go_wp2
        go_ret
        exact ⟨ret_bool (finTun (by simpa using H.out)), (hq.drewN _).below _⟩
    · have T := Lib.hid (show TonesOk x.tones from fun i hi => ht.out i (by omega))
      by_cases g : NameOk x.name
      · have G := Lib.hid (yesB g)
        have H := Lib.hid (show decide ((x.tones.length : Int) ≤ 128) = validTunB x from finTun ⟨fun h => by have := h.len; simp; omega, fun h => ⟨g, by have := of_decide_eq_true h; omega, T.out⟩⟩)
        clear g
        go_wp2_with fail
        refine (l01Name_any x.name _ hn).mono ?_
        rw [← G.out]
        rintro e w1 ⟨rfl, rfl⟩
        go_wp2
        go_ret
        exact ⟨ret_bool H.out, hq.below _⟩
      · have G := Lib.hid (noB g)
        have H := Lib.hid (show ¬ TunOk x from fun h => g h.name)
        clear g
        go_wp2_with fail
        refine (l01Name_any x.name _ hn).mono ?_
        rw [← G.out]
        rintro e w1 ⟨rfl, rfl⟩
        go_wp2
        go_ret
        exact ⟨ret_bool (finTun (by simpa using H.out)), hq.below _⟩

end Go.Proofs.Ytemmnjokojgjaaa
/- Small laws on tunes that are right. -/
set_option linter.unusedSimpArgs false
set_option linter.unnecessarySimpa false
set_option linter.unusedVariables false
set_option maxRecDepth 100000
namespace Go.Proofs.Ytemmnjokojgjaaa
open Go.RowKit

/-- A tone that is right ends in time. -/
theorem TonOk.fits {x : Ton} (h : TonOk x) : 0 ≤ x.start ∧ x.start ≤ 20000 ∧ 1 ≤ x.len ∧ x.start + x.len ≤ 20000 := by
  obtain ⟨_, h1, h2⟩ := (TonOk.iff' x).1 h
  omega

theorem validTunB_iff {x : TunD} : validTunB x = true ↔ TunOk x := by simp [validTunB]

theorem tun_len {x : TunD} (h : validTunB x = true) : x.tones.length ≤ 128 := by
  have h1 : TunOk x := by simpa [validTunB] using h
  exact h1.len
theorem tun_tone {x : TunD} (h : validTunB x = true) {k : Nat} (hk : k < x.tones.length) : TonOk x.tones[k] := by
  have h1 : TunOk x := by simpa [validTunB] using h
  exact (h1.tones k hk hk).1


end Go.Proofs.Ytemmnjokojgjaaa
/- A row of tones of the call's own: one tone of it read, one stored. -/
set_option linter.unusedSimpArgs false
set_option linter.unnecessarySimpa false
set_option linter.unusedVariables false
namespace Go.Proofs.Ytemmnjokojgjaaa
open Go.RowKit

/-- Block g holds the n tones d. -/
def TR (w : World) (base g n cap : Nat) (d : List Ton) : Prop := d.length = n ∧ w.ownsRow base 92 3 (.slice (some ⟨g, 0, none⟩) n cap) n (d.flatMap Ton.cells)
section
variable {w w' : World} {base g n cap : Nat} {d : List Ton}
theorem TR.mono (h : TR w base g n cap d) (hb : Below w.heap.size w w') : TR w' base g n cap d := ⟨h.1, owns_mono h.2 hb⟩
theorem TR.len (h : TR w base g n cap d) : d.length = n := h.1
theorem TR.lt (h : TR w base g n cap d) : base ≤ g ∧ g < w.heap.size := h.2.lt g rfl
theorem TR.at (h : TR w base g n cap d) {k : Nat} (hk : k < d.length) :
    w.cell? ⟨g, k * 3, none⟩ = some (.int .i64 d[k].note) ∧ w.cell? ⟨g, k * 3 + 1, none⟩ = some (.int .i64 d[k].start) ∧ w.cell? ⟨g, k * 3 + 2, none⟩ = some (.int .i64 d[k].len) := by
  have hl : d.length = n := h.1
  have g0 := flat_at (f := Ton.cells) (m := 3) (fun _ => rfl) d k 0 hk (by omega) (u := .int .i64 d[k].note) rfl
  have g1 := flat_at (f := Ton.cells) (m := 3) (fun _ => rfl) d k 1 hk (by omega) (u := .int .i64 d[k].start) rfl
  have g2 := flat_at (f := Ton.cells) (m := 3) (fun _ => rfl) d k 2 hk (by omega) (u := .int .i64 d[k].len) rfl
  exact ⟨by rw [h.2.cellAt _ (by omega)]; simpa using g0, by rw [h.2.cellAt _ (by omega)]; exact g1, by rw [h.2.cellAt _ (by omega)]; exact g2⟩
theorem TR.fr (h : TR w base g n cap d) (o : Nat) : w.frozen? ⟨g, o, none⟩ = false := h.2.frozenAt o
theorem TR.set (h : TR w base g n cap d) {k : Nat} (hk : k < d.length) (x : Ton) :
    TR (((w.setCell ⟨g, k * 3, none⟩ (.int .i64 x.note)).setCell ⟨g, k * 3 + 1, none⟩ (.int .i64 x.start)).setCell ⟨g, k * 3 + 2, none⟩ (.int .i64 x.len)) base g n cap (d.set k x) ∧
      w.grownBy (((w.setCell ⟨g, k * 3, none⟩ (.int .i64 x.note)).setCell ⟨g, k * 3 + 1, none⟩ (.int .i64 x.start)).setCell ⟨g, k * 3 + 2, none⟩ (.int .i64 x.len)) (some g) := by
  have e : d.flatMap Ton.cells = (d.take k).flatMap Ton.cells ++ (.int .i64 d[k].note :: .int .i64 d[k].start :: .int .i64 d[k].len :: (d.drop (k + 1)).flatMap Ton.cells) := by
    conv => lhs; rw [← List.take_append_drop k d, List.drop_eq_getElem_cons hk]
    rw [List.flatMap_append, List.flatMap_cons]; rfl
  have e2 : (d.set k x).flatMap Ton.cells = (d.take k).flatMap Ton.cells ++ (.int .i64 x.note :: .int .i64 x.start :: .int .i64 x.len :: (d.drop (k + 1)).flatMap Ton.cells) := by
    rw [List.set_eq_take_append_cons_drop, if_pos hk, List.flatMap_append, List.flatMap_cons]; rfl
  have h2 := h.2
  rw [e] at h2
  have s := stored3 h2 (j := k * 3) (by rw [flat_len (f := Ton.cells) (m := 3) (fun _ => rfl), List.length_take, Nat.min_eq_left (by omega)]) (.int .i64 x.note) (.int .i64 x.start) (.int .i64 x.len)
  exact ⟨⟨by rw [List.length_set]; exact h.1, by rw [e2]; exact s.1⟩, s.2⟩
theorem getElem_mid (P Q : List Ton) (x : Ton) (h : P.length < (P ++ x :: Q).length) : (P ++ x :: Q)[P.length]'h = x := by simp
theorem set_mid (P Q : List Ton) (x y : Ton) : (P ++ x :: Q).set P.length y = P ++ y :: Q := by rw [List.set_append_right _ _ (Nat.le_refl _), Nat.sub_self]; rfl
theorem TR.atM {P Q : List Ton} {x : Ton} {k : Nat} (h : TR w base g n cap (P ++ x :: Q)) (hk : P.length = k) :
    w.cell? ⟨g, k * 3, none⟩ = some (.int .i64 x.note) ∧ w.cell? ⟨g, k * 3 + 1, none⟩ = some (.int .i64 x.start) ∧ w.cell? ⟨g, k * 3 + 2, none⟩ = some (.int .i64 x.len) := by
  subst hk
  have h1 := h.at (k := P.length) (by simp)
  rwa [getElem_mid] at h1
theorem TR.setM {P Q : List Ton} {x : Ton} {k : Nat} (h : TR w base g n cap (P ++ x :: Q)) (hk : P.length = k) (y : Ton) :
    TR (((w.setCell ⟨g, k * 3, none⟩ (.int .i64 y.note)).setCell ⟨g, k * 3 + 1, none⟩ (.int .i64 y.start)).setCell ⟨g, k * 3 + 2, none⟩ (.int .i64 y.len)) base g n cap (P ++ y :: Q) ∧
      w.grownBy (((w.setCell ⟨g, k * 3, none⟩ (.int .i64 y.note)).setCell ⟨g, k * 3 + 1, none⟩ (.int .i64 y.start)).setCell ⟨g, k * 3 + 2, none⟩ (.int .i64 y.len)) (some g) := by
  subst hk
  have h1 := h.set (k := P.length) (by simp) y
  rwa [set_mid] at h1
theorem TR.drew (h : TR w base g n cap d) : TR w.drew base g n cap d := h
theorem grown_row' {row : Option Nat} (h : Below w.heap.size w w') : w.grownBy w' row := ⟨h.os, h.tape, h.output, h.size, fun k hk _ => h.block k hk⟩
end

theorem grown_drew2 {a b : World} {row : Option Nat} (h : a.grownBy b row) : a.drew.grownBy b.drew row := ⟨h.os, h.tape, h.output, h.size, h.block⟩
theorem grown_drewR {a b : World} {row : Option Nat} (h : a.grownBy b row) : a.grownBy b.drew row := ⟨h.os, h.tape, h.output, h.size, h.block⟩
/-- Two tones exchanged. -/
def swapL (d : List Ton) (i j : Nat) (hi : i < d.length) (hj : j < d.length) : List Ton := (d.set i d[j]).set j d[i]
theorem swap_adj (P Q : List Ton) (s x : Ton) (j : Nat) (hj : P.length + 1 = j) : ((P ++ s :: x :: Q).set j s).set (j - 1) x = P ++ x :: s :: Q := by
  subst hj
  rw [List.set_append_right _ _ (by omega), show P.length + 1 - P.length = 1 by omega, List.set_append_right _ _ (by omega), show P.length + 1 - 1 - P.length = 0 by omega]
  rfl

end Go.Proofs.Ytemmnjokojgjaaa
/- Small laws on rows of tones and on worlds that draw. -/
set_option linter.unusedSimpArgs false
set_option linter.unnecessarySimpa false
set_option linter.unusedVariables false
set_option maxRecDepth 100000
namespace Go.Proofs.Ytemmnjokojgjaaa
open Go.RowKit

theorem Ton.one (xs : List Ton) : ∀ u ∈ xs.flatMap Ton.cells, u.oneCell' = true := by
  intro u hu
  obtain ⟨l, _, h⟩ := List.mem_flatMap.1 hu
  simp only [Ton.cells, List.mem_cons, List.not_mem_nil, or_false] at h
  rcases h with rfl | rfl | rfl <;> rfl

theorem owns_drew {w : World} {base : Nat} {e : TypeId} {size n : Nat} {v : Value} {cs : List Value} (h : w.ownsRow base e size v n cs) : w.drew.ownsRow base e size v n cs := h
theorem grown_setD {a w : World} {g : Nat} (h : a.grownBy w (some g)) (o : Nat) (u : Value) : a.grownBy (w.setCell ⟨g, o, none⟩ u) (some g) :=
  ⟨h.os, h.tape, h.output, by have := h.size; simpa [World.setCell] using this, fun k hk hne => (Below.heap_setCell _ _ _ _ (by intro e; apply hne; simp only at e; rw [e])).trans (h.block k hk hne)⟩
/-- A result that is an action and a code. -/
theorem grown_rowD {w w' : World} {row : Option Nat} (h : Below w.heap.size w.drew w') : w.drew.grownBy w' row := ⟨h.os, h.tape, h.output, h.size, fun k hk _ => h.block k hk⟩
theorem below_2drew {b : Nat} {w w' : World} {o : Obj} (hb : Below b (w.alloc o).drew w') (h : w.heap.size = b) : Below w.heap.size w.drew w' := ⟨hb.os, hb.tape, hb.output, by have := hb.size; simp at this ⊢; exact Nat.le_trans (Nat.le_succ _) this, fun k hk => (hb.block k (by omega)).trans ((belowA w o).block k hk)⟩

end Go.Proofs.Ytemmnjokojgjaaa
/- Contract of swapRangeCmpFunc at tones. -/
set_option linter.unusedSimpArgs false
set_option linter.unnecessarySimpa false
set_option linter.unusedVariables false
set_option maxRecDepth 100000
namespace Go.Proofs.Ytemmnjokojgjaaa
open Go.RowKit

theorem swapR_form (A L M R C : List Ton) (i : Nat) (hl : i < L.length) (hr : i < R.length) :
    A ++ (R.take i ++ (L.drop i ++ (M ++ (L.take i ++ (R.drop i ++ C))))) = (A ++ R.take i) ++ L[i] :: (L.drop (i + 1) ++ (M ++ (L.take i ++ (R[i] :: (R.drop (i + 1) ++ C))))) := by
  rw [List.drop_eq_getElem_cons hl, List.drop_eq_getElem_cons hr]; simp only [List.append_assoc, List.cons_append]
theorem swapR_form2 (A L M R C : List Ton) (i : Nat) (x y : Ton) :
    (A ++ R.take i) ++ x :: (L.drop (i + 1) ++ (M ++ (L.take i ++ (y :: (R.drop (i + 1) ++ C))))) = ((A ++ R.take i) ++ x :: (L.drop (i + 1) ++ (M ++ L.take i))) ++ y :: (R.drop (i + 1) ++ C) := by simp
theorem swapR_next (A L M R C : List Ton) (i : Nat) (hl : i < L.length) (hr : i < R.length) :
    ((A ++ R.take i) ++ R[i] :: (L.drop (i + 1) ++ (M ++ L.take i))) ++ L[i] :: (R.drop (i + 1) ++ C) = A ++ (R.take (i + 1) ++ (L.drop (i + 1) ++ (M ++ (L.take (i + 1) ++ (R.drop (i + 1) ++ C))))) := by
  rw [List.take_succ_eq_append_getElem hl, List.take_succ_eq_append_getElem hr]; simp only [List.append_assoc, List.cons_append, List.nil_append]

set_option maxHeartbeats 2000000 in
theorem swapRange_any (base g n cap a b m : Nat) (f : Value) (A L M R C : List Ton) (w : World) (h : TR w base g n cap (A ++ (L ++ (M ++ (R ++ C))))) (hn : n ≤ 1000000) (ha : A.length = a) (hl : L.length = m) (hr : R.length = m) (hb : A.length + (L.length + M.length) = b) :
    Calls Try.prog 137 #[.slice (some ⟨g, 0, none⟩) n cap, .int .i64 a, .int .i64 b, .int .i64 m, f] w fun e w' => e = .returned (.tuple #[]) ∧ TR w' base g n cap (A ++ (R ++ (M ++ (L ++ C)))) ∧ w.grownBy w' (some g) := by
  have hln := h.len
  simp only [List.length_append] at hln
  have hcn : n ≤ cap := by rcases h.2.2 with ⟨e, _⟩ | ⟨g', cap', cur, e, _, _, h1, _⟩ <;> cases e; exact h1
  have HA := Lib.hid ha; have HL := Lib.hid hl; have HR := Lib.hid hr; have HB := Lib.hid hb; have HN := Lib.hid hln
  have q1 : a + m ≤ n := by omega
  have q2 : b + m ≤ n := by omega
  have q3 : a + m ≤ b := by omega
  clear ha hl hr hb hln
  go_enter Try.func137, Try.ntmps137
  go_wp2_with fail
  go_loopw [10] (fun i wr => ∃ j : Nat, j ≤ m ∧ i = .int .i64 j ∧ TR wr base g n cap (A ++ (R.take j ++ (L.drop j ++ (M ++ (L.take j ++ (R.drop j ++ C)))))) ∧ w.grownBy wr (some g)) (fun i _ => m - (intOf i).toNat)
  case atStart => exact ⟨0, Nat.zero_le _, rfl, by simpa using h, World.grownBy.refl _ _⟩
  case round =>
    obtain ⟨j, hj, rfl, hT, hg⟩ := hrel
    by_cases hlt : j < m
    · have hjl : j < L.length := by rw [HL.out]; exact hlt
      have hjr : j < R.length := by rw [HR.out]; exact hlt
      have e1 := swapR_form A L M R C j hjl hjr
      rw [e1] at hT
      have ka : (A ++ R.take j).length = a + j := by rw [List.length_append, HA.out, List.length_take, Nat.min_eq_left (by omega)]
      have kb : ∀ x, ((A ++ R.take j) ++ x :: (L.drop (j + 1) ++ (M ++ L.take j))).length = b + j := fun x => by
        have := HB.out; have := HL.out; have := HA.out
        simp only [List.length_append, List.length_cons, List.length_take, List.length_drop]; omega
      obtain ⟨c0, c1, c2⟩ := hT.atM ka
      have hT2 := hT
      rw [swapR_form2] at hT2
      obtain ⟨d0, d1, d2⟩ := hT2.atM (kb _)
      have f0 := hT.fr
      have hlt' := hT.lt.2
      have KA := Lib.hid ka; have KB := Lib.hid kb; have HT := Lib.hid hT; clear ka kb hT2 e1 hT
      have z1 : ((a : Int) + (j : Int)).toNat = a + j := by omega
      have z2 : ((b : Int) + (j : Int)).toNat = b + j := by omega
      have w1' : IntKind.i64.wrap ((a : Int) + (j : Int)) = (a : Int) + (j : Int) := IntWalk.i64_in _ (by omega)
      have w2' : IntKind.i64.wrap ((b : Int) + (j : Int)) = (b : Int) + (j : Int) := IntWalk.i64_in _ (by omega)
      have b1 : (0 : Int) ≤ (a : Int) + (j : Int) := by omega
      have b2 : (0 : Int) ≤ (b : Int) + (j : Int) := by omega
      have b3 : (a : Int) + (j : Int) < (n : Int) := by omega
      have b4 : (b : Int) + (j : Int) < (n : Int) := by omega
      go_wp2_with fail
      refine wp_region_ordG [(0, 1), (1, 1), (2, 1), (3, 1), (4, 1), (5, 1), (6, 1), (7, 1), (8, 1), (9, 1), (10, 1), (11, 1), (12, 1), (13, 2), (14, 1), (15, 1), (16, 1), (17, 1), (18, 1), (19, 2), (20, 1), (21, 0), (22, 1), (23, 0)] [21, 23] (some g) (by kernel_rfl) (by kernel_rfl) ?_
      (repeat ((first | with_reducible refine wpOrdG_soft (fun K hK => ?_) | with_reducible refine wpOrdG_pre (fun K hK => ?_)); simp only [List.getElem?_toArray, List.getElem?_cons_zero, List.getElem?_cons_succ]; first | (go_simp; refine hK _ ?_) | (simp only [undef]; go_simp; refine hK _ ?_); clear hK K))
      (with_reducible refine wpOrdG_hard ?_; simp only [List.getElem?_toArray, List.getElem?_cons_zero, List.getElem?_cons_succ])
      go_wp2_with fail
      have s1 := HT.out.setM KA.out R[j]
      refine ⟨grown_drew2 s1.2, ?_⟩
      have S1 := Lib.hid s1; clear s1
      (repeat ((first | with_reducible refine wpOrdG_soft (fun K hK => ?_) | with_reducible refine wpOrdG_pre (fun K hK => ?_)); simp only [List.getElem?_toArray, List.getElem?_cons_zero, List.getElem?_cons_succ]; first | (go_simp; refine hK _ ?_) | (simp only [undef]; go_simp; refine hK _ ?_); clear hK K))
      (with_reducible refine wpOrdG_hard ?_; simp only [List.getElem?_toArray, List.getElem?_cons_zero, List.getElem?_cons_succ])
      go_wp2_with fail
      have s2 := S1.out.1
      rw [swapR_form2] at s2
      have s3 := s2.setM (KB.out _) L[j]
      have g3 := grown_trans S1.out.2 s3.2
      refine ⟨grown_drew2 g3, ?_⟩
      have T3 := Lib.hid s3.1; have G3 := Lib.hid g3; clear s2 s3 g3
      (with_reducible refine wpOrdG_nil ?_); refine NoPanic.normal ?_
      clear w1' w2'
      go_wp2
      go_roundw
      case rel => exact ⟨j + 1, by omega, by go_num, by have := T3.out; rw [swapR_next A L M R C j hjl hjr] at this; exact this.drew, grown_trans hg (grown_drewR G3.out)⟩
      case measure => simp [intOf] <;> omega
    · obtain rfl : j = m := by omega
      have e1 : A ++ (R.take j ++ (L.drop j ++ (M ++ (L.take j ++ (R.drop j ++ C))))) = A ++ (R ++ (M ++ (L ++ C))) := by
        rw [List.take_of_length_le (by rw [HR.out]; omega), List.drop_eq_nil_of_le (by rw [HL.out]; omega), List.take_of_length_le (by rw [HL.out]; omega), List.drop_eq_nil_of_le (by rw [HR.out]; omega)]; simp
      have E1 := Lib.hid e1; clear e1
      go_wp2
      go_end0
      exact ⟨rfl, by rw [← E1.out]; exact hT, hg⟩

end Go.Proofs.Ytemmnjokojgjaaa
/- Contract of rotateCmpFunc at tones. -/
set_option linter.unusedSimpArgs false
set_option linter.unnecessarySimpa false
set_option linter.unusedVariables false
set_option maxRecDepth 100000
namespace Go.Proofs.Ytemmnjokojgjaaa
open Go.RowKit

theorem cut2' (X P Q R : List Ton) (k : Nat) : P ++ (R ++ (X.take k ++ (X.drop k ++ Q))) = P ++ (R ++ (X ++ Q)) := by rw [← List.append_assoc (X.take k), List.take_append_drop]
theorem cut2 (X P Q : List Ton) (k : Nat) : P ++ (X.take k ++ (X.drop k ++ Q)) = P ++ (X ++ Q) := by rw [← List.append_assoc (X.take k), List.take_append_drop]

set_option maxHeartbeats 2000000 in
theorem rotate_any (base g n cap a m b : Nat) (f : Value) (A L R C : List Ton) (w : World) (h : TR w base g n cap (A ++ (L ++ (R ++ C)))) (hn : n ≤ 1000000) (ha : A.length = a) (hm : A.length + L.length = m) (hb : A.length + (L.length + R.length) = b) (hL : 0 < L.length) (hR : 0 < R.length) :
    Calls Try.prog 131 #[.slice (some ⟨g, 0, none⟩) n cap, .int .i64 a, .int .i64 m, .int .i64 b, f] w fun e w' => e = .returned (.tuple #[]) ∧ TR w' base g n cap (A ++ (R ++ (L ++ C))) ∧ w.grownBy w' (some g) := by
  have hln := h.len
  simp only [List.length_append] at hln
  have q1 : a < m := by omega
  have q2 : m < b := by omega
  have q3 : b ≤ n := by omega
  have HM := Lib.hid hm; have HB := Lib.hid hb; have HA := Lib.hid ha
  clear hln hm hb ha hL hR
  go_enter Try.func131, Try.ntmps131
  go_wp2_with fail
  go_loopw [10, 11] (fun i j wr => ∃ (A' L' R' C' : List Ton), i = .int .i64 L'.length ∧ j = .int .i64 R'.length ∧ 0 < L'.length ∧ 0 < R'.length ∧ A'.length + L'.length = m ∧ A' ++ (R' ++ (L' ++ C')) = A ++ (R ++ (L ++ C)) ∧ TR wr base g n cap (A' ++ (L' ++ (R' ++ C'))) ∧ w.grownBy wr (some g)) (fun i j _ => (intOf i + intOf j).toNat)
  case atStart => exact ⟨A, L, R, C, by have := HM.out; have := HA.out; congr 1; omega, by have := HM.out; have := HB.out; congr 1; omega, by have := HM.out; have := HA.out; omega, by have := HM.out; have := HB.out; omega, HM.out, rfl, h, World.grownBy.refl _ _⟩
  case round =>
    obtain ⟨A', L', R', C', rfl, rfl, hL, hR, hm', he, hT, hg⟩ := hrel
    have hln := hT.len
    simp only [List.length_append] at hln
    have r1 : A'.length + L'.length + R'.length ≤ n := by omega
    have HM' := Lib.hid hm'; have HE := Lib.hid he; have HT := Lib.hid hT
    clear hln hm' he hT
    rcases Nat.lt_trichotomy L'.length R'.length with hl | hl | hl
    · have d0 : ((L'.length : Int) != (R'.length : Int)) = true := by simp; omega
      have d1 : decide ((R'.length : Int) < (L'.length : Int)) = false := by simp; omega
      have k1 : (R'.take (R'.length - L'.length)).length = R'.length - L'.length := by rw [List.length_take]; omega
      have k2 : (R'.drop (R'.length - L'.length)).length = L'.length := by rw [List.length_drop]; omega
      have K1 := Lib.hid k1; have K2 := Lib.hid k2; clear k1 k2
      have e1 := Lib.hid (show (m : Int) - (L'.length : Int) = (A'.length : Int) by have := HM'.out; omega)
      have e2 := Lib.hid (show (m : Int) + (R'.length : Int) - (L'.length : Int) = ((A'.length + (L'.length + (R'.length - L'.length)) : Nat) : Int) by have := HM'.out; omega)
      go_wp2_with fail
      rw [e1.out, e2.out]
      refine (swapRange_any base g n cap _ _ L'.length f A' L' (R'.take (R'.length - L'.length)) (R'.drop (R'.length - L'.length)) C' _ (by have := HT.out; rw [← cut2' R' A' C' L' (R'.length - L'.length)] at this; exact this) hn rfl rfl K2.out (by rw [K1.out])).mono ?_
      rintro e w1 ⟨rfl, hT1, hg1⟩
      have HT1 := Lib.hid hT1; have HG1 := Lib.hid hg1; clear hT1 hg1
      go_wp2
      go_roundw
      case rel => exact ⟨A', R'.drop (R'.length - L'.length), R'.take (R'.length - L'.length), L' ++ C', by rw [K2.out], by rw [K1.out]; congr 1; omega, by rw [K2.out]; exact hL, by rw [K1.out]; omega, by rw [K2.out]; exact HM'.out, by rw [cut2]; exact HE.out, HT1.out, grown_trans hg HG1.out⟩
      case measure => simp [intOf] <;> omega
    · have d0 : ((L'.length : Int) != (R'.length : Int)) = false := by simp; omega
      have e1 := Lib.hid (show (m : Int) - (L'.length : Int) = (A'.length : Int) by have := HM'.out; omega)
      have HL := Lib.hid hl; clear hl
      go_wp2_with fail
      rw [e1.out]
      refine (swapRange_any base g n cap _ m L'.length f A' L' [] R' C' _ HT.out hn rfl rfl HL.out.symm HM'.out).mono ?_
      rintro e w1 ⟨rfl, hT1, hg1⟩
      have HT1 := Lib.hid hT1; have HG1 := Lib.hid hg1; clear hT1 hg1
      go_wp2
      go_end0
      exact ⟨rfl, by rw [← HE.out]; exact HT1.out, grown_trans hg HG1.out⟩
    · have d0 : ((L'.length : Int) != (R'.length : Int)) = true := by simp; omega
      have d1 : decide ((R'.length : Int) < (L'.length : Int)) = true := by simp; omega
      have k1 : (L'.take R'.length).length = R'.length := by rw [List.length_take]; omega
      have k2 : (L'.drop R'.length).length = L'.length - R'.length := by rw [List.length_drop]
      have K1 := Lib.hid k1; have K2 := Lib.hid k2; clear k1 k2
      have e1 := Lib.hid (show (m : Int) - (L'.length : Int) = (A'.length : Int) by have := HM'.out; omega)
      go_wp2_with fail
      rw [e1.out]
      refine (swapRange_any base g n cap _ m R'.length f A' (L'.take R'.length) (L'.drop R'.length) R' C' _ (by have := HT.out; rw [← cut2 L' A' (R' ++ C') R'.length] at this; exact this) hn rfl K1.out rfl (by rw [K1.out, K2.out]; have := HM'.out; omega)).mono ?_
      rintro e w1 ⟨rfl, hT1, hg1⟩
      have HT1 := Lib.hid hT1; have HG1 := Lib.hid hg1; clear hT1 hg1
      go_wp2
      go_roundw
      case rel => exact ⟨A' ++ R', L'.drop R'.length, L'.take R'.length, C', by rw [K2.out]; congr 1; omega, by rw [K1.out], by rw [K2.out]; omega, by rw [K1.out]; exact hR, by rw [List.length_append, K2.out]; have := HM'.out; omega, by rw [← HE.out, List.append_assoc, cut2'], by have := HT1.out; rw [← List.append_assoc] at this; exact this, grown_trans hg HG1.out⟩
      case measure => simp [intOf] <;> omega

end Go.Proofs.Ytemmnjokojgjaaa
/- Rows of tones in order: what a sort by compareTones owes. No program in sight. -/
set_option linter.unusedSimpArgs false
set_option linter.unnecessarySimpa false
set_option linter.unusedVariables false
namespace Go.Proofs.Ytemmnjokojgjaaa
open Go.RowKit

theorem before_irrefl (x : Ton) : ¬ before x x := by unfold before; omega
theorem before_trans {x y z : Ton} (h : before x y) (g : before y z) : before x z := by unfold before at *; omega
theorem before_asymm {x y : Ton} (h : before x y) : ¬ before y x := by unfold before at *; omega
/-- x may lie ahead of y. -/
def leT (x y : Ton) : Prop := ¬ before y x
theorem leT_refl (x : Ton) : leT x x := before_irrefl x
theorem leT_trans {x y z : Ton} (h : leT x y) (g : leT y z) : leT x z := by unfold leT before at *; omega
theorem leT_of {x y : Ton} (h : before x y) : leT x y := before_asymm h
theorem leT_total (x y : Ton) : leT x y ∨ leT y x := by unfold leT before; omega
theorem before_le {x y z : Ton} (h : before x y) (g : leT y z) : before x z := by unfold leT before at *; omega
theorem le_before {x y z : Ton} (h : leT x y) (g : before y z) : before x z := by unfold leT before at *; omega
theorem before_le' {x y z : Ton} (h : leT x y) (g : before y z) : before x z := le_before h g
/-- In order. -/
def Srt (d : List Ton) : Prop := d.Pairwise leT

theorem srt_nil : Srt [] := List.Pairwise.nil
theorem srt_one (x : Ton) : Srt [x] := List.pairwise_singleton _ _
theorem Srt.app {a b : List Ton} (ha : Srt a) (hb : Srt b) (h : ∀ x ∈ a, ∀ y ∈ b, leT x y) : Srt (a ++ b) := List.pairwise_append.2 ⟨ha, hb, h⟩
theorem Srt.left {a b : List Ton} (h : Srt (a ++ b)) : Srt a := (List.pairwise_append.1 h).1
theorem Srt.right {a b : List Ton} (h : Srt (a ++ b)) : Srt b := (List.pairwise_append.1 h).2.1
theorem Srt.cross {a b : List Ton} (h : Srt (a ++ b)) : ∀ x ∈ a, ∀ y ∈ b, leT x y := (List.pairwise_append.1 h).2.2
theorem Srt.insert {P Q : List Ton} {x : Ton} (h : Srt (P ++ Q)) (h1 : ∀ y ∈ P, leT y x) (h2 : ∀ y ∈ Q, leT x y) : Srt (P ++ x :: Q) :=
  Srt.app h.left (List.pairwise_cons.2 ⟨h2, h.right⟩) (by
    intro a ha b hb
    rcases List.mem_cons.1 hb with rfl | hb
    · exact h1 a ha
    · exact h.cross a ha b hb)
theorem Srt.lasts {P : List Ton} {s : Ton} (h : Srt (P ++ [s])) : ∀ y ∈ P, leT y s := fun y hy => h.cross y hy s (List.mem_singleton.2 rfl)
theorem Srt.all_le {P : List Ton} {s x : Ton} (h : Srt (P ++ [s])) (g : leT s x) : ∀ y ∈ P ++ [s], leT y x := by
  intro y hy
  rcases List.mem_append.1 hy with hy | hy
  · exact leT_trans (h.lasts y hy) g
  · rw [List.mem_singleton.1 hy]; exact g
theorem perm_mid (P Q : List Ton) (x : Ton) : (P ++ x :: Q).Perm (x :: (P ++ Q)) := List.perm_middle

end Go.Proofs.Ytemmnjokojgjaaa
