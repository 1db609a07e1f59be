/-
  No cell of these rows narrows 'for every input' (looked for: loops, veiled, ifaces, maps, wideKeys, modest, calm, conditions, laid).
  DERIVED. THE GIVEN ROWS OF THIS SEAT. 5 by the template 'for every input the law returns true; each argument reads behind the call as it read before'; 0 by the template 'total and deterministic' (their statements: YtemmnjokojgjaaaTotals.lean).
  GIVEN WITH THE SEED: the statements are not yours to turn. If you find one false, say at which input.
  Laid BY PROGRAM, IN A SANDBOX (cutbox-rows.mjs): the forced cells as the released guide's own fill.sh prints them over the translation 70b82eed16ac9289… (all of the seat's roots in one cut). By AI agents, Wed Nov 11 2026. No macro, syntax, notation, axiom, sorry.
-/
import Derived.Test.YtemmnjokojgjaaaChecked
import GoSem.Claim
import GoSem.ClaimJoined
import GoSem.ClaimMapViews
import Derived.JoinedTies
import Derived.KernelRfl
namespace Go.Proofs.Ytemmnjokojgjaaa
/- THE CELL 'sum', in the pinned program and in every row, IS THE sha256 OF THE DUMP (.gsa) THAT YtemmnjokojgjaaaProg.lean LOADS. Nothing in Lean hashes anything: it is a label: what it is worth is what the hold of that sum in a sandbox is worth. -/
noncomputable def Try.pinned : Pinned := { name := "ytemmnjokojgjaaa", sum := "70b82eed16ac92893c000bbf156497d3cc9a5cf21ac94dac846089ee982ce585", checked := Try.checked }
namespace Rows
def none {H : Type} : Left H := { results := [], args := [] }

/-- 'laws.FnExactArrangeTune': WHATEVER THE INPUT: true; the input reads as it did. -/
def fnExactArrangeTuneSpec : ChangeSpec := { name := "fnExactArrangeTune", fn := fun _ => fun
  | [d1, d2, d3] => { results := [.lit (.bool true)], args := [d1, d2, d3] }
  | _ => none }
def fnExactArrangeTuneRow : OpenClaim := { program := "ytemmnjokojgjaaa", sum := "70b82eed16ac92893c000bbf156497d3cc9a5cf21ac94dac846089ee982ce585", func := "loop.example/g00952/laws.FnExactArrangeTune", spec := "fnExactArrangeTune", unfollowed := true, recurses := true, apart := false }
def FnExactArrangeTuneSaid : Prop := fnExactArrangeTuneRow.holds Try.pinned (OpenSpec.ofChange fnExactArrangeTuneSpec)

/-- ITS FALSE NEIGHBOUR: 'it returns false'. Refute it at one input. -/
def fnExactArrangeTuneWrong : ChangeSpec := { name := "fnExactArrangeTune", fn := fun _ => fun
  | [d1, d2, d3] => { results := [.lit (.bool false)], args := [d1, d2, d3] }
  | _ => none }
def FnExactArrangeTuneWrongFalsely : Prop := fnExactArrangeTuneRow.holds Try.pinned (OpenSpec.ofChange fnExactArrangeTuneWrong)

/-- 'laws.FnExactArrangeCost': WHATEVER THE INPUT: true; the input reads as it did. -/
def fnExactArrangeCostSpec : ChangeSpec := { name := "fnExactArrangeCost", fn := fun _ => fun
  | [d1, d2, d3] => { results := [.lit (.bool true)], args := [d1, d2, d3] }
  | _ => none }
def fnExactArrangeCostRow : OpenClaim := { program := "ytemmnjokojgjaaa", sum := "70b82eed16ac92893c000bbf156497d3cc9a5cf21ac94dac846089ee982ce585", func := "loop.example/g00952/laws.FnExactArrangeCost", spec := "fnExactArrangeCost", unfollowed := true, recurses := true, apart := false }
def FnExactArrangeCostSaid : Prop := fnExactArrangeCostRow.holds Try.pinned (OpenSpec.ofChange fnExactArrangeCostSpec)

/-- ITS FALSE NEIGHBOUR: 'it returns false'. Refute it at one input. -/
def fnExactArrangeCostWrong : ChangeSpec := { name := "fnExactArrangeCost", fn := fun _ => fun
  | [d1, d2, d3] => { results := [.lit (.bool false)], args := [d1, d2, d3] }
  | _ => none }
def FnExactArrangeCostWrongFalsely : Prop := fnExactArrangeCostRow.holds Try.pinned (OpenSpec.ofChange fnExactArrangeCostWrong)

/-- 'laws.FnExactBestShift': WHATEVER THE INPUT: true; the input reads as it did. -/
def fnExactBestShiftSpec : ChangeSpec := { name := "fnExactBestShift", fn := fun _ => fun
  | [d1, d2] => { results := [.lit (.bool true)], args := [d1, d2] }
  | _ => none }
def fnExactBestShiftRow : OpenClaim := { program := "ytemmnjokojgjaaa", sum := "70b82eed16ac92893c000bbf156497d3cc9a5cf21ac94dac846089ee982ce585", func := "loop.example/g00952/laws.FnExactBestShift", spec := "fnExactBestShift", unfollowed := true, recurses := true, apart := false }
def FnExactBestShiftSaid : Prop := fnExactBestShiftRow.holds Try.pinned (OpenSpec.ofChange fnExactBestShiftSpec)

/-- ITS FALSE NEIGHBOUR: 'it returns false'. Refute it at one input. -/
def fnExactBestShiftWrong : ChangeSpec := { name := "fnExactBestShift", fn := fun _ => fun
  | [d1, d2] => { results := [.lit (.bool false)], args := [d1, d2] }
  | _ => none }
def FnExactBestShiftWrongFalsely : Prop := fnExactBestShiftRow.holds Try.pinned (OpenSpec.ofChange fnExactBestShiftWrong)

/-- 'laws.FnArranging': WHATEVER THE INPUT: true; the input reads as it did. -/
def fnArrangingSpec : ChangeSpec := { name := "fnArranging", fn := fun _ => fun
  | [d1, d2] => { results := [.lit (.bool true)], args := [d1, d2] }
  | _ => none }
def fnArrangingRow : OpenClaim := { program := "ytemmnjokojgjaaa", sum := "70b82eed16ac92893c000bbf156497d3cc9a5cf21ac94dac846089ee982ce585", func := "loop.example/g00952/laws.FnArranging", spec := "fnArranging", unfollowed := true, recurses := true, apart := false }
def FnArrangingSaid : Prop := fnArrangingRow.holds Try.pinned (OpenSpec.ofChange fnArrangingSpec)

/-- ITS FALSE NEIGHBOUR: 'it returns false'. Refute it at one input. -/
def fnArrangingWrong : ChangeSpec := { name := "fnArranging", fn := fun _ => fun
  | [d1, d2] => { results := [.lit (.bool false)], args := [d1, d2] }
  | _ => none }
def FnArrangingWrongFalsely : Prop := fnArrangingRow.holds Try.pinned (OpenSpec.ofChange fnArrangingWrong)

/-- 'laws.FnFewest': WHATEVER THE INPUT: true; the input reads as it did. -/
def fnFewestSpec : ChangeSpec := { name := "fnFewest", fn := fun _ => fun
  | [d1, d2] => { results := [.lit (.bool true)], args := [d1, d2] }
  | _ => none }
def fnFewestRow : OpenClaim := { program := "ytemmnjokojgjaaa", sum := "70b82eed16ac92893c000bbf156497d3cc9a5cf21ac94dac846089ee982ce585", func := "loop.example/g00952/laws.FnFewest", spec := "fnFewest", unfollowed := true, recurses := true, apart := false }
def FnFewestSaid : Prop := fnFewestRow.holds Try.pinned (OpenSpec.ofChange fnFewestSpec)

/-- ITS FALSE NEIGHBOUR: 'it returns false'. Refute it at one input. -/
def fnFewestWrong : ChangeSpec := { name := "fnFewest", fn := fun _ => fun
  | [d1, d2] => { results := [.lit (.bool false)], args := [d1, d2] }
  | _ => none }
def FnFewestWrongFalsely : Prop := fnFewestRow.holds Try.pinned (OpenSpec.ofChange fnFewestWrong)

/- THE SECOND FORM. 'bulk': how many values and letters a reading holds, each counted each time it is reached (what is shared counts as often as it is met; a slice's spare places count too). A statement '..UptoSaid' is the law's where the arguments, and the package variables that the reading takes, are together of bulk at most 1048576: NARROWER than '..Said'. Prove '..Said' where nothing that the law and all that it calls make is longer than what came in: it says more and counts as full. Else prove '..UptoSaid'. A law counts once. -/
mutual
def uptoBulk {H : Type} : DataW H → Nat
  | .lit (.string bytes) => bytes.length + 1
  | .lit _ => 1
  | .nil => 1
  | .ptr d => uptoBulk d + 1
  | .slice elems spare => uptoBulkAll elems + uptoBulkAll spare + 1
  | .agg parts => uptoBulkAll parts + 1
  | .iface _ d => uptoBulk d + 1
  | .map entries => uptoBulkEntries entries + 1
  | .held _ => 1
def uptoBulkAll {H : Type} : List (DataW H) → Nat
  | [] => 0
  | d :: r => uptoBulk d + uptoBulkAll r
def uptoBulkEntries {H : Type} : List (Lit × DataW H) → Nat
  | [] => 0
  | x :: r => uptoBulkEntry x + uptoBulkEntries r
def uptoBulkEntry {H : Type} : Lit × DataW H → Nat
  | (.string bytes, d) => bytes.length + uptoBulk d + 1
  | (_, d) => uptoBulk d + 1
 end
def uptoSmall : (H : Type) → List (DataW H) → Bool := fun _ ds => decide (uptoBulkAll ds ≤ 1048576)
def OpenSpec.upto (s : _root_.Go.ChangeSpec) : _root_.Go.OpenSpec := { _root_.Go.OpenSpec.ofChange s with cond := some uptoSmall }

/-- 'laws.FnExactArrangeTune', WHERE WHAT IT READS IS OF BULK AT MOST 1048576: true; the input reads as it did. -/
def fnExactArrangeTuneUptoRow : OpenClaim := { program := "ytemmnjokojgjaaa", sum := "70b82eed16ac92893c000bbf156497d3cc9a5cf21ac94dac846089ee982ce585", func := "loop.example/g00952/laws.FnExactArrangeTune", spec := "fnExactArrangeTune", unfollowed := true, recurses := true, apart := false, narrowed := true }
def FnExactArrangeTuneUptoSaid : Prop := fnExactArrangeTuneUptoRow.holds Try.pinned (OpenSpec.upto fnExactArrangeTuneSpec)

/-- 'laws.FnExactArrangeCost', WHERE WHAT IT READS IS OF BULK AT MOST 1048576: true; the input reads as it did. -/
def fnExactArrangeCostUptoRow : OpenClaim := { program := "ytemmnjokojgjaaa", sum := "70b82eed16ac92893c000bbf156497d3cc9a5cf21ac94dac846089ee982ce585", func := "loop.example/g00952/laws.FnExactArrangeCost", spec := "fnExactArrangeCost", unfollowed := true, recurses := true, apart := false, narrowed := true }
def FnExactArrangeCostUptoSaid : Prop := fnExactArrangeCostUptoRow.holds Try.pinned (OpenSpec.upto fnExactArrangeCostSpec)

/-- 'laws.FnExactBestShift', WHERE WHAT IT READS IS OF BULK AT MOST 1048576: true; the input reads as it did. -/
def fnExactBestShiftUptoRow : OpenClaim := { program := "ytemmnjokojgjaaa", sum := "70b82eed16ac92893c000bbf156497d3cc9a5cf21ac94dac846089ee982ce585", func := "loop.example/g00952/laws.FnExactBestShift", spec := "fnExactBestShift", unfollowed := true, recurses := true, apart := false, narrowed := true }
def FnExactBestShiftUptoSaid : Prop := fnExactBestShiftUptoRow.holds Try.pinned (OpenSpec.upto fnExactBestShiftSpec)

/-- 'laws.FnArranging', WHERE WHAT IT READS IS OF BULK AT MOST 1048576: true; the input reads as it did. -/
def fnArrangingUptoRow : OpenClaim := { program := "ytemmnjokojgjaaa", sum := "70b82eed16ac92893c000bbf156497d3cc9a5cf21ac94dac846089ee982ce585", func := "loop.example/g00952/laws.FnArranging", spec := "fnArranging", unfollowed := true, recurses := true, apart := false, narrowed := true }
def FnArrangingUptoSaid : Prop := fnArrangingUptoRow.holds Try.pinned (OpenSpec.upto fnArrangingSpec)

/-- 'laws.FnFewest', WHERE WHAT IT READS IS OF BULK AT MOST 1048576: true; the input reads as it did. -/
def fnFewestUptoRow : OpenClaim := { program := "ytemmnjokojgjaaa", sum := "70b82eed16ac92893c000bbf156497d3cc9a5cf21ac94dac846089ee982ce585", func := "loop.example/g00952/laws.FnFewest", spec := "fnFewest", unfollowed := true, recurses := true, apart := false, narrowed := true }
def FnFewestUptoSaid : Prop := fnFewestUptoRow.holds Try.pinned (OpenSpec.upto fnFewestSpec)

end Rows
end Go.Proofs.Ytemmnjokojgjaaa
