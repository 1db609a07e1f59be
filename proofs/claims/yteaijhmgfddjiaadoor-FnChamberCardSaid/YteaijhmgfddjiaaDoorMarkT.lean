/- The laws' text of a mark. Contract of markText. -/
import Derived.Test.YteaijhmgfddjiaaDoorRegion
import Derived.Test.YteaijhmgfddjiaaDoorInfo
import Derived.Test.YteaijhmgfddjiaaDoorKey
import Derived.Test.YteaijhmgfddjiaaDoorStrEq
import Derived.Deep.QuietTactic
import Derived.BigQuiet
set_option linter.unusedSimpArgs false
set_option linter.unnecessarySimpa false
set_option linter.unusedVariables false
set_option maxRecDepth 100000
namespace Go.Proofs.YteaijhmgfddjiaaDoor
open Go.RowKit

/-- The digits of a mark, before others. -/
def mkF : Nat → Nat → ByteArray → ByteArray
  | 0, _, o => o
  | f + 1, m, o => if m = 0 then o else mkF f (m / 10) ((⟨#[UInt8.ofNat (48 + m % 10)]⟩ : ByteArray) ++ o)
theorem mkF_zero (f : Nat) (o : ByteArray) : mkF f 0 o = o := by cases f <;> simp [mkF]
theorem mkF_step {f m : Nat} (h : 0 < m) (o : ByteArray) : mkF (f + 1) m o = mkF f (m / 10) ((⟨#[UInt8.ofNat (48 + m % 10)]⟩ : ByteArray) ++ o) := by simp only [mkF]; rw [if_neg (by omega)]
/-- The text of the mark k. -/
def mkT (k : Nat) : ByteArray := (⟨#[109]⟩ : ByteArray) ++ mkF k k ⟨#[]⟩

end Go.Proofs.YteaijhmgfddjiaaDoor
