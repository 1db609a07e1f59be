/- Contracts of l25Tone, l25Before, l25Ok and ValidTune of both packages. -/
import Derived.Test.YtgdfecnpkjnhnaaDoorToneC
import Derived.Test.YtgdfecnpkjnhnaaDoorName
set_option linter.unusedSimpArgs false
set_option linter.unnecessarySimpa false
set_option linter.unusedVariables false
namespace Go.Proofs.YtgdfecnpkjnhnaaDoor
open Go.RowKit

/-- A tone lies in block b from cell off on. -/
structure TonIn (w : World) (b off : Nat) (x : Ton) : Prop where
  lt : b < w.heap.size
  c0 : w.cell? ⟨b, off, none⟩ = some (.int .i64 x.note)
  c1 : w.cell? ⟨b, off + 1, none⟩ = some (.int .i64 x.start)
  c2 : w.cell? ⟨b, off + 2, none⟩ = some (.int .i64 x.len)

set_option maxHeartbeats 1000000 in
theorem l25Tone_any (r : Bool) (b off : Nat) (x : Ton) (w : World) (h : TonIn w b off x) (hr : r = decide (TonOk x)) :
    Calls Tryd.prog 64 #[.pointer (some ⟨b, off, none⟩)] w fun e w' => e = .returned (.bool r) ∧ Q w w' := by
  obtain ⟨lt, c0, c1, c2⟩ := h
  by_cases e1 : noteOk x.note
  · by_cases e2 : 0 ≤ x.start ∧ x.start ≤ 20000
    · have E1 := Lib.hid e1; have E2 := Lib.hid (yesB e2); have E3 := Lib.hid (show r = decide (1 ≤ x.len ∧ x.len ≤ 20000 - x.start) by subst hr; simp only [TonOk.iff', e1, e2, true_and])
      obtain ⟨u1, u2⟩ := e2
      have hw : IntKind.i64.wrap (20000 - x.start) = 20000 - x.start := IntWalk.i64_in _ (by omega)
      clear hr e1
      go_enter Tryd.func64, Tryd.ntmps64
      go_wp2_with fail
      go_quiet (first | (go_at_call 92; exact Calls.quiet_of_same (l03Note_any true _ _ (yesB E1.out))) | (go_at_call 90; first | with_reducible exact Calls.quiet_of_same (l00In_any true _ 0 20000 _ E2.out) | with_reducible exact Calls.quiet_of_same (l00In_any r _ 1 _ _ E3.out)))
      go_wp2
      go_ret
      exact ⟨rfl, _, rfl⟩
    · have E1 := Lib.hid e1; have E2 := Lib.hid (noB e2); have E3 := Lib.hid (show r = false by subst hr; exact decide_eq_false fun h => e2 h.start)
      clear hr e1 e2
      go_enter Tryd.func64, Tryd.ntmps64
      go_wp2_with fail
      go_quiet (first | (go_at_call 92; exact Calls.quiet_of_same (l03Note_any true _ _ (yesB E1.out))) | (go_at_call 90; exact Calls.quiet_of_same (l00In_any false _ 0 20000 _ E2.out)))
      go_wp2
      go_ret
      exact ⟨by rw [E3.out]; rfl, _, rfl⟩
  · have E1 := Lib.hid e1; have E3 := Lib.hid (show r = false by subst hr; exact decide_eq_false fun h => e1 h.note)
    clear hr e1
    go_enter Tryd.func64, Tryd.ntmps64
    go_wp2_with fail
    go_quiet ((go_at_call 92; exact Calls.quiet_of_same (l03Note_any false _ _ (noB E1.out))))
    go_wp2
    go_ret
    exact ⟨by rw [E3.out]; rfl, _, rfl⟩

set_option maxHeartbeats 1000000 in
theorem l25Before_any (r : Bool) (b off b' off' : Nat) (x y : Ton) (w : World) (h : TonIn w b off x) (h' : TonIn w b' off' y) (hr : r = decide (before x y)) :
    Calls Tryd.prog 65 #[.pointer (some ⟨b, off, none⟩), .pointer (some ⟨b', off', none⟩)] w fun e w' => e = .returned (.bool r) ∧ Q w w' := by
  obtain ⟨lt, c0, c1, c2⟩ := h
  obtain ⟨lt', c0', c1', c2'⟩ := h'
  by_cases e1 : x.start < y.start
  · have d1 : decide (x.start < y.start) = true := by simpa using e1
    have E := Lib.hid (show r = true by subst hr; exact decide_eq_true (.inl e1))
    clear hr
    go_enter Tryd.func65, Tryd.ntmps65
    go_wp2_with fail
    go_quiet (fail)
    go_wp2
    go_ret
    exact ⟨by rw [E.out]; rfl, _, rfl⟩
  · have d1 : decide (x.start < y.start) = false := by simpa using e1
    by_cases e2 : x.start = y.start
    · have d2 : (x.start == y.start) = true := by simpa using e2
      have E := Lib.hid (show r = decide (x.note < y.note) by subst hr; unfold before; simp [e2])
      clear hr e2
      go_enter Tryd.func65, Tryd.ntmps65
      go_wp2_with fail
      go_quiet (fail)
      go_wp2
      go_ret
      exact ⟨by rw [E.out]; rfl, _, rfl⟩
    · have d2 : (x.start == y.start) = false := by simpa using e2
      have E := Lib.hid (show r = false by subst hr; exact decide_eq_false fun h => h.elim e1 (fun h => e2 h.1))
      clear hr e2
      go_enter Tryd.func65, Tryd.ntmps65
      go_wp2_with fail
      go_quiet (fail)
      go_wp2
      go_ret
      exact ⟨by rw [E.out]; rfl, _, rfl⟩

/-- The tone at k is right, and stands behind the one before it. -/
def TonAt (xs : List Ton) (k : Nat) : Prop := ∀ h : k < xs.length, TonOk xs[k] ∧ (0 < k → before (xs[k - 1]'(by omega)) xs[k])
def TonesOk (xs : List Ton) : Prop := ∀ k, k < xs.length → TonAt xs k
structure TunOk (x : TunD) : Prop where
  name : NameOk x.name
  len : x.tones.length ≤ 128
  tones : TonesOk x.tones
noncomputable instance (x : TunD) : Decidable (TunOk x) := Classical.propDecidable _
noncomputable def validTunB (x : TunD) : Bool := decide (TunOk x)
theorem finTun {x : TunD} {b : Bool} (h : TunOk x ↔ b = true) : b = validTunB x := by cases b <;> simp [validTunB] at h ⊢ <;> exact h

theorem TonIn.of {w : World} {a : Option Addr} {cap : Nat} {xs : List Ton} {k : Nat} (h : Tons w (.slice a xs.length cap) xs) (hk : k < xs.length) : ∃ b off, a = some ⟨b, off, none⟩ ∧ TonIn w b (off + k * 3) xs[k] := by
  obtain ⟨b, off, e, lt, c0, c1, c2⟩ := h.at hk
  exact ⟨b, off, e, lt, c0, c1, c2⟩

/-- A tune lies in block b. -/
structure TunIn (w : World) (b : Nat) (lv : Value) (x : TunD) : Prop where
  c0 : w.cell? ⟨b, 0, none⟩ = some (.string x.name)
  c1 : w.cell? ⟨b, 1, none⟩ = some lv
  tones : Tons w lv x.tones
  name : x.name.size ≤ maxLen

set_option maxHeartbeats 2000000 in
theorem l25Ok_any (b : Nat) (lv : Value) (x : TunD) (w : World) (h : TunIn w b lv x) :
    Calls Tryd.prog 34 #[.pointer (some ⟨b, 0, none⟩)] w fun e w' => e = .returned (.bool (validTunB x)) ∧ Below w.heap.size w w' := by
  obtain ⟨c0, c1, hlv, hn⟩ := h
  obtain ⟨a, ca, rfl, hca, hcm, _⟩ := id hlv
  have hm : x.tones.length ≤ maxLen := by omega
  clear hca hcm
  unfold maxLen at hm
  go_enter Tryd.func34, Tryd.ntmps34
  go_wp2_with fail
  go_loopw [3] (fun i wr => ∃ k : Nat, k ≤ x.tones.length ∧ i = .int .i64 k ∧ (∀ i, i < k → TonAt x.tones i) ∧ Q w wr) (fun i _ => x.tones.length - (intOf i).toNat)
  case atStart => exact ⟨0, Nat.zero_le _, rfl, by intro i h; omega, Q.refl _⟩
  case round =>
    obtain ⟨k, hk, rfl, ht', hq⟩ := hrel
    have ht := Lib.hid ht'; clear ht'
    have u0 := (hq.cell ⟨b, 0, none⟩).trans c0
    have u1 := (hq.cell ⟨b, 1, none⟩).trans c1
    by_cases hlt : k < x.tones.length
    · obtain ⟨b1, o1, rfl, hT⟩ := TonIn.of (hlv.q hq) hlt
      by_cases g : TonOk x.tones[k]
      · by_cases h0 : 0 < k
        · have hk1 : k - 1 < x.tones.length := by omega
          obtain ⟨b2, o2, e2, hT2⟩ := TonIn.of (hlv.q hq) hk1
          simp only [Option.some.injEq, Addr.mk.injEq, and_true] at e2
          obtain ⟨rfl, rfl⟩ := e2
          have z1 : ((k : Int) - 1).toNat = k - 1 := by omega
          have d0 : decide (0 < (k : Int)) = true := by simpa using h0
          by_cases g2 : before x.tones[k - 1] x.tones[k]
          · have G := Lib.hid g; have G2 := Lib.hid g2; clear g g2
            go_wp2_with fail
            go_quiet (first | (go_at_call 64; exact quiet_q (l25Tone_any true _ _ x.tones[k] _ ⟨hT.1, hT.2, hT.3, hT.4⟩ (yesB G.out))) | (go_at_call 65; exact quiet_q (l25Before_any true _ _ _ _ x.tones[k - 1] x.tones[k] _ ⟨hT2.1, hT2.2, hT2.3, hT2.4⟩ ⟨hT.1, hT.2, hT.3, hT.4⟩ (yesB G2.out))))
            go_wp2
            go_roundw
            case rel => exact ⟨k + 1, by omega, by go_num, lt_step ht.out (fun _ => ⟨G.out, fun _ => G2.out⟩), hq.drewN _⟩
            case measure => simp [intOf]; omega
          · have H := Lib.hid (show ¬ TunOk x from fun h => g2 ((h.tones k hlt hlt).2 h0))
            have G := Lib.hid g; have G2 := Lib.hid g2; clear g g2
            go_wp2_with fail
            go_quiet (first | (go_at_call 64; exact quiet_q (l25Tone_any true _ _ x.tones[k] _ ⟨hT.1, hT.2, hT.3, hT.4⟩ (yesB G.out))) | (go_at_call 65; exact quiet_q (l25Before_any false _ _ _ _ x.tones[k - 1] x.tones[k] _ ⟨hT2.1, hT2.2, hT2.3, hT2.4⟩ ⟨hT.1, hT.2, hT.3, hT.4⟩ (noB G2.out))))
            go_wp2
            go_ret
            exact ⟨ret_bool (finTun (by simpa using H.out)), (hq.drewN _).below _⟩
        · have d0 : decide (0 < (k : Int)) = false := by simpa using h0
          have G := Lib.hid g; clear g
          go_wp2_with fail
          go_quiet ((go_at_call 64; exact quiet_q (l25Tone_any true _ _ x.tones[k] _ ⟨hT.1, hT.2, hT.3, hT.4⟩ (yesB G.out))))
          go_wp2
          go_roundw
          case rel => exact ⟨k + 1, by omega, by go_num, lt_step ht.out (fun _ => ⟨G.out, fun h => absurd h h0⟩), hq.drewN _⟩
          case measure => simp [intOf]; omega
      · have H := Lib.hid (show ¬ TunOk x from fun h => g (h.tones k hlt hlt).1)
        have G := Lib.hid g; clear g
        go_wp2_with fail
        go_quiet ((go_at_call 64; exact quiet_q (l25Tone_any false _ _ x.tones[k] _ ⟨hT.1, hT.2, hT.3, hT.4⟩ (noB G.out))))
        go_wp2
        go_ret
        exact ⟨ret_bool (finTun (by simpa using H.out)), (hq.drewN _).below _⟩
    · have T := Lib.hid (show TonesOk x.tones from fun i hi => ht.out i (by omega))
      by_cases g : NameOk x.name
      · have G := Lib.hid (yesB g)
        have H := Lib.hid (show decide ((x.tones.length : Int) ≤ 128) = validTunB x from finTun ⟨fun h => by have := h.len; simp; omega, fun h => ⟨g, by have := of_decide_eq_true h; omega, T.out⟩⟩)
        clear g
        go_wp2_with fail
        refine (l01Name_any x.name _ hn).mono ?_
        rw [← G.out]
        rintro e w1 ⟨rfl, rfl⟩
        go_wp2
        go_ret
        exact ⟨ret_bool H.out, hq.below _⟩
      · have G := Lib.hid (noB g)
        have H := Lib.hid (show ¬ TunOk x from fun h => g h.name)
        clear g
        go_wp2_with fail
        refine (l01Name_any x.name _ hn).mono ?_
        rw [← G.out]
        rintro e w1 ⟨rfl, rfl⟩
        go_wp2
        go_ret
        exact ⟨ret_bool (finTun (by simpa using H.out)), hq.below _⟩

end Go.Proofs.YtgdfecnpkjnhnaaDoor
