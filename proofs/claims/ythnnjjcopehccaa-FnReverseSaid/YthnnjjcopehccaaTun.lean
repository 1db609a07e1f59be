/- Contracts of the laws' helpers over one tune: copy, equality, size, marks. -/
import Derived.Test.YthnnjjcopehccaaTonM
set_option linter.unusedSimpArgs false
set_option linter.unnecessarySimpa false
set_option linter.unusedVariables false
namespace Go.Proofs.Ythnnjjcopehccaa
open Go.RowKit

structure TunD where
  name : ByteArray
  tones : List Ton
  deriving DecidableEq

theorem TunD.ext_iff' (x y : TunD) : x = y ↔ x.name = y.name ∧ x.tones = y.tones := by cases x; cases y; simp [TunD.mk.injEq]

theorem str_inj {a b : ByteArray} (h : a.toList = b.toList) : a = b := by
  rw [ByteArray.toList_eq, ByteArray.toList_eq] at h
  cases a; cases b; simp only at h
  congr 1
  exact Array.toList_inj.1 h
theorem str_beq (a b : ByteArray) : (a.toList == b.toList) = decide (a = b) := by
  by_cases h : a = b
  · subst h; simp
  · have : a.toList ≠ b.toList := fun e => h (str_inj e)
    simp [h, this]

theorem tun_true {x y : TunD} (h1 : x.name = y.name) (h2 : x.tones = y.tones) : true = decide (x = y) := by
  symm; apply decide_eq_true; rw [TunD.ext_iff']; exact ⟨h1, h2⟩
theorem tun_false {x y : TunD} (h : ¬ (x.name = y.name ∧ x.tones = y.tones)) : false = decide (x = y) := by
  symm; apply decide_eq_false; rw [TunD.ext_iff']; exact h

/-- All numbers of a tune are int64; its name is no longer than a string can be. -/
def TunD.ok (x : TunD) : Prop := x.name.size ≤ maxLen ∧ ∀ l ∈ x.tones, I64 l.note ∧ I64 l.start ∧ I64 l.len

/-- v is a tune that reads as x, its tones lying at lv. -/
def Tun (w : World) (v : Value) (lv : Value) (x : TunD) : Prop := v = .agg #[.string x.name, lv] ∧ Tons w lv x.tones

theorem Tun.mono {w w' : World} {v lv : Value} {x : TunD} (h : Tun w v lv x) (hb : Below w.heap.size w w') : Tun w' v lv x := ⟨h.1, h.2.mono hb⟩

/-- What is left of a size. -/
def leftTun (left : Int) (x : TunD) : Int := if left < x.name.size + x.tones.length then -1 else left - x.name.size - x.tones.length

/-- A tune lies in block b, its tones at lv. -/
structure TunAt (w : World) (b : Nat) (lv : Value) (x : TunD) : Prop where
  c0 : w.cell? ⟨b, 0, none⟩ = some (.string x.name)
  c1 : w.cell? ⟨b, 1, none⟩ = some lv
  tones : Tons w lv x.tones

end Go.Proofs.Ythnnjjcopehccaa
