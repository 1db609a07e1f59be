/- Small laws on tunes that are right. -/
import Derived.Test.YthnnjjcopehccaaValidTun
set_option linter.unusedSimpArgs false
set_option linter.unnecessarySimpa false
set_option linter.unusedVariables false
set_option maxRecDepth 100000
namespace Go.Proofs.Ythnnjjcopehccaa
open Go.RowKit

/-- A tone that is right ends in time. -/
theorem TonOk.fits {x : Ton} (h : TonOk x) : 0 ≤ x.start ∧ x.start ≤ 20000 ∧ 1 ≤ x.len ∧ x.start + x.len ≤ 20000 := by
  obtain ⟨_, h1, h2⟩ := (TonOk.iff' x).1 h
  omega

theorem validTunB_iff {x : TunD} : validTunB x = true ↔ TunOk x := by simp [validTunB]

theorem tun_len {x : TunD} (h : validTunB x = true) : x.tones.length ≤ 128 := by
  have h1 : TunOk x := by simpa [validTunB] using h
  exact h1.len
theorem tun_tone {x : TunD} (h : validTunB x = true) {k : Nat} (hk : k < x.tones.length) : TonOk x.tones[k] := by
  have h1 : TunOk x := by simpa [validTunB] using h
  exact (h1.tones k hk hk).1


end Go.Proofs.Ythnnjjcopehccaa
