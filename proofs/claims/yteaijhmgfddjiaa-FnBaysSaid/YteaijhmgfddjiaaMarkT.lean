/- The laws' text of a mark. Contract of markText. -/
import Derived.Test.YteaijhmgfddjiaaRegion
import Derived.Test.YteaijhmgfddjiaaInfo
import Derived.Test.YteaijhmgfddjiaaKey
import Derived.Test.YteaijhmgfddjiaaStrEq
import Derived.Deep.QuietTactic
import Derived.BigQuiet
set_option linter.unusedSimpArgs false
set_option linter.unnecessarySimpa false
set_option linter.unusedVariables false
set_option maxRecDepth 100000
namespace Go.Proofs.Yteaijhmgfddjiaa
open Go.RowKit

/-- The digits of a mark, before others. -/
def mkF : Nat → Nat → ByteArray → ByteArray
  | 0, _, o => o
  | f + 1, m, o => if m = 0 then o else mkF f (m / 10) ((⟨#[UInt8.ofNat (48 + m % 10)]⟩ : ByteArray) ++ o)
theorem mkF_zero (f : Nat) (o : ByteArray) : mkF f 0 o = o := by cases f <;> simp [mkF]
theorem mkF_step {f m : Nat} (h : 0 < m) (o : ByteArray) : mkF (f + 1) m o = mkF f (m / 10) ((⟨#[UInt8.ofNat (48 + m % 10)]⟩ : ByteArray) ++ o) := by simp only [mkF]; rw [if_neg (by omega)]
/-- The text of the mark k. -/
def mkT (k : Nat) : ByteArray := (⟨#[109]⟩ : ByteArray) ++ mkF k k ⟨#[]⟩

set_option maxHeartbeats 1000000 in
theorem markText_any (k : Nat) (w : World) (h : 1 ≤ k) (h2 : k ≤ 1000000000) :
    Calls Try.prog 56 #[.int .i64 (k : Int)] w fun e w' => e = .returned (.string (mkT k)) ∧ Below w.heap.size w w' := by
  have d0 : decide ((k : Int) ≤ 0) = false := by simpa using (show ¬ k = 0 by omega)
  go_enter Try.func56, Try.ntmps56
  go_wp2_with fail
  go_loopw [0, 3] (fun kv o wr => ∃ (f m : Nat) (b : ByteArray), kv = .int .i64 (m : Int) ∧ o = .string b ∧ m ≤ f ∧ m ≤ k ∧ b.size + f ≤ k ∧ mkF f m b = mkF k k ⟨#[]⟩ ∧ Below w.heap.size w wr) (fun kv _ _ => (intOf kv).toNat)
  case atStart => exact ⟨k, k, ⟨#[]⟩, rfl, rfl, Nat.le_refl _, Nat.le_refl _, by show 0 + k ≤ k; omega, rfl, Below.refl _ _⟩
  case round =>
    obtain ⟨f, m, b, rfl, rfl, hf, hk, hs, hm, hb⟩ := hrel
    have HM := Lib.hid hm; have HB := Lib.hid hb
    clear hm hb
    by_cases hp : 0 < m
    · obtain ⟨f', rfl⟩ : ∃ f', f = f' + 1 := ⟨f - 1, by omega⟩
      have HM1 := Lib.hid ((mkF_step hp b).symm.trans HM.out)
      have hu : ((UInt8.ofNat (48 + m % 10)).toNat : Int) = 48 + (m : Int) % 10 := by
        rw [UInt8.toNat_ofNat']
        omega
      obtain ⟨c, hc⟩ : ∃ c : UInt8, UInt8.ofNat (48 + m % 10) = c := ⟨_, rfl⟩
      rw [hc] at hu HM1
      clear hc
      have hconv := run_convert_bytes_back (P := Try.prog) (wr.alloc (.cells #[.int .u8 (48 + (m : Int) % 10)] 5)) 22 9 5 ⟨wr.heap.size, 0, none⟩ 1 [c] Try.underlying22 Try.underlying5 Try.underlying9 (fun i hi => by
        obtain rfl : i = 0 := by simp at hi; exact hi
        rw [Addr.add_lit]
        simp [go_sem, hu]
        )
      simp only [List.length_cons, List.length_nil, Nat.zero_add] at hconv
      clear hu
      have hs1 : ((⟨#[c]⟩ : ByteArray) ++ b).size = 1 + b.size := ByteArray.size_append
      have HC := Lib.hid (belowA wr (.cells #[.int .u8 (48 + (m : Int) % 10)] 5))
      have hzr := HB.out.size
      go_wp2
      go_roundw
      case rel => exact ⟨f', m / 10, _, by go_num, rfl, by omega, by omega, by rw [hs1]; omega, HM1.out, HB.out.trans (HC.out.mono hzr)⟩
      case measure => simp [intOf] <;> omega
    · obtain rfl : m = 0 := by omega
      have HR := Lib.hid (show (⟨#[109]⟩ : ByteArray) ++ b = mkT k by unfold mkT; rw [← HM.out, mkF_zero])
      go_wp2
      go_ret
      exact ⟨by rw [← HR.out]; rfl, HB.out⟩

end Go.Proofs.Yteaijhmgfddjiaa
