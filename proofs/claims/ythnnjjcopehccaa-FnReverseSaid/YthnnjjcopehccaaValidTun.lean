/- Contracts of l25Tone, l25Before, l25Ok and ValidTune of both packages. -/
import Derived.Test.YthnnjjcopehccaaToneC
import Derived.Test.YthnnjjcopehccaaName
set_option linter.unusedSimpArgs false
set_option linter.unnecessarySimpa false
set_option linter.unusedVariables false
namespace Go.Proofs.Ythnnjjcopehccaa
open Go.RowKit

/-- A tone lies in block b from cell off on. -/
structure TonIn (w : World) (b off : Nat) (x : Ton) : Prop where
  lt : b < w.heap.size
  c0 : w.cell? ⟨b, off, none⟩ = some (.int .i64 x.note)
  c1 : w.cell? ⟨b, off + 1, none⟩ = some (.int .i64 x.start)
  c2 : w.cell? ⟨b, off + 2, none⟩ = some (.int .i64 x.len)

set_option maxHeartbeats 1000000 in
theorem l25Before_any (r : Bool) (b off b' off' : Nat) (x y : Ton) (w : World) (h : TonIn w b off x) (h' : TonIn w b' off' y) (hr : r = decide (before x y)) :
    Calls Try.prog 16 #[.pointer (some ⟨b, off, none⟩), .pointer (some ⟨b', off', none⟩)] w fun e w' => e = .returned (.bool r) ∧ Q w w' := by
  obtain ⟨lt, c0, c1, c2⟩ := h
  obtain ⟨lt', c0', c1', c2'⟩ := h'
  by_cases e1 : x.start < y.start
  · have d1 : decide (x.start < y.start) = true := by simpa using e1
    have E := Lib.hid (show r = true by subst hr; exact decide_eq_true (.inl e1))
    clear hr
    go_enter Try.func16, Try.ntmps16
    go_wp2_with fail
    go_quiet (fail)
    go_wp2
    go_ret
    exact ⟨by rw [E.out]; rfl, _, rfl⟩
  · have d1 : decide (x.start < y.start) = false := by simpa using e1
    by_cases e2 : x.start = y.start
    · have d2 : (x.start == y.start) = true := by simpa using e2
      have E := Lib.hid (show r = decide (x.note < y.note) by subst hr; unfold before; simp [e2])
      clear hr e2
      go_enter Try.func16, Try.ntmps16
      go_wp2_with fail
      go_quiet (fail)
      go_wp2
      go_ret
      exact ⟨by rw [E.out]; rfl, _, rfl⟩
    · have d2 : (x.start == y.start) = false := by simpa using e2
      have E := Lib.hid (show r = false by subst hr; exact decide_eq_false fun h => h.elim e1 (fun h => e2 h.1))
      clear hr e2
      go_enter Try.func16, Try.ntmps16
      go_wp2_with fail
      go_quiet (fail)
      go_wp2
      go_ret
      exact ⟨by rw [E.out]; rfl, _, rfl⟩

/-- The tone at k is right, and stands behind the one before it. -/
def TonAt (xs : List Ton) (k : Nat) : Prop := ∀ h : k < xs.length, TonOk xs[k] ∧ (0 < k → before (xs[k - 1]'(by omega)) xs[k])
def TonesOk (xs : List Ton) : Prop := ∀ k, k < xs.length → TonAt xs k
structure TunOk (x : TunD) : Prop where
  name : NameOk x.name
  len : x.tones.length ≤ 128
  tones : TonesOk x.tones
noncomputable instance (x : TunD) : Decidable (TunOk x) := Classical.propDecidable _
noncomputable def validTunB (x : TunD) : Bool := decide (TunOk x)
theorem finTun {x : TunD} {b : Bool} (h : TunOk x ↔ b = true) : b = validTunB x := by cases b <;> simp [validTunB] at h ⊢ <;> exact h

theorem TonIn.of {w : World} {a : Option Addr} {cap : Nat} {xs : List Ton} {k : Nat} (h : Tons w (.slice a xs.length cap) xs) (hk : k < xs.length) : ∃ b off, a = some ⟨b, off, none⟩ ∧ TonIn w b (off + k * 3) xs[k] := by
  obtain ⟨b, off, e, lt, c0, c1, c2⟩ := h.at hk
  exact ⟨b, off, e, lt, c0, c1, c2⟩

/-- A tune lies in block b. -/
structure TunIn (w : World) (b : Nat) (lv : Value) (x : TunD) : Prop where
  c0 : w.cell? ⟨b, 0, none⟩ = some (.string x.name)
  c1 : w.cell? ⟨b, 1, none⟩ = some lv
  tones : Tons w lv x.tones
  name : x.name.size ≤ maxLen

end Go.Proofs.Ythnnjjcopehccaa
