/- Contract of slices.Sort at []int64. -/
import Derived.Test.YteaijhmgfddjiaaShelf
import Derived.Test.YteaijhmgfddjiaaChecked
import Derived.Test.YteaijhmgfddjiaaPutL
import Derived.Test.YteaijhmgfddjiaaApp
import Derived.Sort.OwnSortedInts
import Derived.Lib.OwnBridge
import Derived.Deep.QuietTactic
import Derived.BigQuiet
set_option linter.unusedSimpArgs false
set_option linter.unnecessarySimpa false
set_option linter.unusedVariables false
set_option maxRecDepth 100000
namespace Go.Proofs.Yteaijhmgfddjiaa
open Go.RowKit

theorem info_int64 : (Try.prog.info? 2).map (fun i => (i.zero, i.size, i.bytes)) = some (some (.int .i64 0), 1, 8) := by kernel_rfl

/-- slices.Sort on a row of the call's own. -/
theorem sortInts_any (v : Value) (base : Nat) (zs : List Int) (w : World) (h : w.ownsRow base 2 1 v zs.length (zs.map (Value.int .i64))) (hs : zs.length ≤ 1000000000) :
    Calls Try.prog 78 #[v] w fun e w' => e = .returned (.tuple #[]) ∧ w'.ownsRow base 2 1 v zs.length ((sortI zs).map (Value.int .i64)) ∧ w.grownBy w' v.ownBlock := by
  rcases h.2 with ⟨rfl, hn⟩ | ⟨g, cap, cur, rfl, hb, hg, h1, h2, h3, h4⟩
  · have hz : zs = [] := List.eq_nil_of_length_eq_zero hn
    subst hz
    have := AnyG.slices_Sort_int_none Try.laysSort none 0 w
    exact this.mono fun e w' ⟨he, hw⟩ => ⟨he, by rw [hw]; exact ⟨by simpa [sortI] using h, World.grownBy.refl w _⟩⟩
  · have hH := Go.holds_of_blockI hg (by rw [Nat.mul_one] at h4; exact h4)
    have hlt := (Array.getElem?_eq_some_iff.1 hg).1
    have := AnyG.slices_Sort_int Try.laysSort g 0 cap zs w hH hlt (by omega)
    refine this.mono fun e w' ⟨he, n, os, hw⟩ => ⟨he, ?_, ?_⟩
    · rw [hw]; exact Go.ownsRow_sortedI (ss := zs) (ts := sortI zs) (sortI_len zs) hb hg h1 h2 h3
    · rw [hw]; exact Go.grownBy_sortedI _

end Go.Proofs.Yteaijhmgfddjiaa
