/- The program's text of a list of numbers. Contracts of Decimal and ListText. -/
import Derived.Test.YtgdfecnpkjnhnaaDoorShelf
import Derived.Test.YtgdfecnpkjnhnaaDoorListL
import Derived.Test.YtgdfecnpkjnhnaaDoorInfo
import Derived.Test.YtgdfecnpkjnhnaaDoorWithin
import Derived.Lib.LaidTab
import Derived.Lib.AppendIntMem
set_option linter.unusedSimpArgs false
set_option linter.unnecessarySimpa false
set_option linter.unusedVariables false
set_option maxRecDepth 100000
namespace Go.Proofs.YtgdfecnpkjnhnaaDoor
open Go.RowKit

/-- The library's table of powers of ten is as its text lays it. -/
def Tab (w : World) : Prop := Lib.TabIs Tryd.prog w "internal/strconv.uint64pow10" .u64 Lib.pow10Tab
theorem Tab.mono {w w' : World} (h : Tab w) (hb : Below w.heap.size w w') : Tab w' := by
  unfold Tab Lib.TabIs World.var? at *
  cases hg : Tryd.prog.globalNamed "internal/strconv.uint64pow10" with
  | none => rw [hg] at h; cases h
  | some g =>
    rw [hg] at h
    simp only [Option.bind_some] at h ⊢
    rcases Nat.lt_or_ge g w.heap.size with hl | hl
    · rw [hb.block g hl]; exact h
    · rw [Array.getElem?_eq_none hl] at h; cases h
theorem info_str : (Tryd.prog.info? 9).map (fun i => (i.zero, i.size, i.bytes)) = some (some (.string ⟨#[]⟩), 1, 16) := by kernel_rfl

theorem Decimal_any (n : Int) (w : World) (hn : I64 n) (ht : Tab w) :
    Calls Tryd.prog 39 #[.int .i64 n] w fun e w' => e = .returned (.string (decB n)) ∧ Below w.heap.size w w' := by
  have hb := hn.bd
  go_enter Tryd.func39, Tryd.ntmps39
  go_wp2_with fail
  refine (Tryd.strconv_FormatInt_10 n hb.1 hb.2 _ ht).mono ?_
  rintro e w' ⟨rfl, k, os, rfl⟩
  have HB := Lib.hid (Lib.below_grow w.heap.size w (Nat.le_refl _) k os)
  go_wp2
  go_ret
  exact ⟨rfl, HB.out⟩
def Idx (xs : List Int) (w : World) (e : Ending) (w' : World) : Prop := ∃ i : Int, e = .returned (.int .i64 i) ∧ (valsB xs = true → i < 0) ∧ (valsB xs = false → 0 ≤ i) ∧ Below w.heap.size w w'

end Go.Proofs.YtgdfecnpkjnhnaaDoor
