/-
  No cell of these rows narrows 'for every input' (looked for: loops, veiled, ifaces, maps, wideKeys, modest, calm, conditions, laid).
  DERIVED. THE GIVEN ROWS OF THIS SEAT. 3 by the template 'for every input the law returns true; each argument reads behind the call as it read before'; 0 by the template 'total and deterministic' (their statements: YteaijhmgfddjiaaTotals.lean).
  GIVEN WITH THE SEED: the statements are not yours to turn. If you find one false, say at which input.
  Laid BY PROGRAM, IN A SANDBOX (cutbox-rows.mjs): the forced cells as the released guide's own fill.sh prints them over the translation 0defbded5666f69d… (all of the seat's roots in one cut). By AI agents, Wed Nov 11 2026. No macro, syntax, notation, axiom, sorry.
-/
import Derived.Test.YteaijhmgfddjiaaChecked
import GoSem.Claim
import GoSem.ClaimJoined
import GoSem.ClaimMapViews
import Derived.JoinedTies
import Derived.KernelRfl
namespace Go.Proofs.Yteaijhmgfddjiaa
/- THE CELL 'sum', in the pinned program and in every row, IS THE sha256 OF THE DUMP (.gsa) THAT YteaijhmgfddjiaaProg.lean LOADS. Nothing in Lean hashes anything: it is a label: what it is worth is what the hold of that sum in a sandbox is worth. -/
noncomputable def Try.pinned : Pinned := { name := "yteaijhmgfddjiaa", sum := "0defbded5666f69d3aaa8fc691034e860c43379cb4ad49dbdf22ffd1725697ea", checked := Try.checked }
namespace Rows
def none {H : Type} : Left H := { results := [], args := [] }

/-- 'laws.FnBays': WHATEVER THE INPUT: true; the input reads as it did. -/
def fnBaysSpec : ChangeSpec := { name := "fnBays", fn := fun _ => fun
  | [d1, d2] => { results := [.lit (.bool true)], args := [d1, d2] }
  | _ => none }
def fnBaysRow : OpenClaim := { program := "yteaijhmgfddjiaa", sum := "0defbded5666f69d3aaa8fc691034e860c43379cb4ad49dbdf22ffd1725697ea", func := "loop.example/g00952/laws.FnBays", spec := "fnBays", recurses := true, apart := false }
def FnBaysSaid : Prop := fnBaysRow.holds Try.pinned (OpenSpec.ofChange fnBaysSpec)

/-- ITS FALSE NEIGHBOUR: 'it returns false'. Refute it at one input. -/
def fnBaysWrong : ChangeSpec := { name := "fnBays", fn := fun _ => fun
  | [d1, d2] => { results := [.lit (.bool false)], args := [d1, d2] }
  | _ => none }
def FnBaysWrongFalsely : Prop := fnBaysRow.holds Try.pinned (OpenSpec.ofChange fnBaysWrong)

/-- 'laws.FnExactFirstBays': WHATEVER THE INPUT: true; the input reads as it did. -/
def fnExactFirstBaysSpec : ChangeSpec := { name := "fnExactFirstBays", fn := fun _ => fun
  | [d1, d2, d3] => { results := [.lit (.bool true)], args := [d1, d2, d3] }
  | _ => none }
def fnExactFirstBaysRow : OpenClaim := { program := "yteaijhmgfddjiaa", sum := "0defbded5666f69d3aaa8fc691034e860c43379cb4ad49dbdf22ffd1725697ea", func := "loop.example/g00952/laws.FnExactFirstBays", spec := "fnExactFirstBays", recurses := true, apart := false }
def FnExactFirstBaysSaid : Prop := fnExactFirstBaysRow.holds Try.pinned (OpenSpec.ofChange fnExactFirstBaysSpec)

/-- ITS FALSE NEIGHBOUR: 'it returns false'. Refute it at one input. -/
def fnExactFirstBaysWrong : ChangeSpec := { name := "fnExactFirstBays", fn := fun _ => fun
  | [d1, d2, d3] => { results := [.lit (.bool false)], args := [d1, d2, d3] }
  | _ => none }
def FnExactFirstBaysWrongFalsely : Prop := fnExactFirstBaysRow.holds Try.pinned (OpenSpec.ofChange fnExactFirstBaysWrong)

/-- 'laws.FnExactFewestBays': WHATEVER THE INPUT: true; the input reads as it did. -/
def fnExactFewestBaysSpec : ChangeSpec := { name := "fnExactFewestBays", fn := fun _ => fun
  | [d1, d2, d3] => { results := [.lit (.bool true)], args := [d1, d2, d3] }
  | _ => none }
def fnExactFewestBaysRow : OpenClaim := { program := "yteaijhmgfddjiaa", sum := "0defbded5666f69d3aaa8fc691034e860c43379cb4ad49dbdf22ffd1725697ea", func := "loop.example/g00952/laws.FnExactFewestBays", spec := "fnExactFewestBays", recurses := true, apart := false }
def FnExactFewestBaysSaid : Prop := fnExactFewestBaysRow.holds Try.pinned (OpenSpec.ofChange fnExactFewestBaysSpec)

/-- ITS FALSE NEIGHBOUR: 'it returns false'. Refute it at one input. -/
def fnExactFewestBaysWrong : ChangeSpec := { name := "fnExactFewestBays", fn := fun _ => fun
  | [d1, d2, d3] => { results := [.lit (.bool false)], args := [d1, d2, d3] }
  | _ => none }
def FnExactFewestBaysWrongFalsely : Prop := fnExactFewestBaysRow.holds Try.pinned (OpenSpec.ofChange fnExactFewestBaysWrong)

/- THE SECOND FORM. 'bulk': how many values and letters a reading holds, each counted each time it is reached (what is shared counts as often as it is met; a slice's spare places count too). A statement '..UptoSaid' is the law's where the arguments, and the package variables that the reading takes, are together of bulk at most 1048576: NARROWER than '..Said'. Prove '..Said' where nothing that the law and all that it calls make is longer than what came in: it says more and counts as full. Else prove '..UptoSaid'. A law counts once. -/
mutual
def uptoBulk {H : Type} : DataW H → Nat
  | .lit (.string bytes) => bytes.length + 1
  | .lit _ => 1
  | .nil => 1
  | .ptr d => uptoBulk d + 1
  | .slice elems spare => uptoBulkAll elems + uptoBulkAll spare + 1
  | .agg parts => uptoBulkAll parts + 1
  | .iface _ d => uptoBulk d + 1
  | .map entries => uptoBulkEntries entries + 1
  | .held _ => 1
def uptoBulkAll {H : Type} : List (DataW H) → Nat
  | [] => 0
  | d :: r => uptoBulk d + uptoBulkAll r
def uptoBulkEntries {H : Type} : List (Lit × DataW H) → Nat
  | [] => 0
  | x :: r => uptoBulkEntry x + uptoBulkEntries r
def uptoBulkEntry {H : Type} : Lit × DataW H → Nat
  | (.string bytes, d) => bytes.length + uptoBulk d + 1
  | (_, d) => uptoBulk d + 1
 end
def uptoSmall : (H : Type) → List (DataW H) → Bool := fun _ ds => decide (uptoBulkAll ds ≤ 1048576)
def OpenSpec.upto (s : _root_.Go.ChangeSpec) : _root_.Go.OpenSpec := { _root_.Go.OpenSpec.ofChange s with cond := some uptoSmall }

/-- 'laws.FnBays', WHERE WHAT IT READS IS OF BULK AT MOST 1048576: true; the input reads as it did. -/
def fnBaysUptoRow : OpenClaim := { program := "yteaijhmgfddjiaa", sum := "0defbded5666f69d3aaa8fc691034e860c43379cb4ad49dbdf22ffd1725697ea", func := "loop.example/g00952/laws.FnBays", spec := "fnBays", recurses := true, apart := false, narrowed := true }
def FnBaysUptoSaid : Prop := fnBaysUptoRow.holds Try.pinned (OpenSpec.upto fnBaysSpec)

/-- 'laws.FnExactFirstBays', WHERE WHAT IT READS IS OF BULK AT MOST 1048576: true; the input reads as it did. -/
def fnExactFirstBaysUptoRow : OpenClaim := { program := "yteaijhmgfddjiaa", sum := "0defbded5666f69d3aaa8fc691034e860c43379cb4ad49dbdf22ffd1725697ea", func := "loop.example/g00952/laws.FnExactFirstBays", spec := "fnExactFirstBays", recurses := true, apart := false, narrowed := true }
def FnExactFirstBaysUptoSaid : Prop := fnExactFirstBaysUptoRow.holds Try.pinned (OpenSpec.upto fnExactFirstBaysSpec)

/-- 'laws.FnExactFewestBays', WHERE WHAT IT READS IS OF BULK AT MOST 1048576: true; the input reads as it did. -/
def fnExactFewestBaysUptoRow : OpenClaim := { program := "yteaijhmgfddjiaa", sum := "0defbded5666f69d3aaa8fc691034e860c43379cb4ad49dbdf22ffd1725697ea", func := "loop.example/g00952/laws.FnExactFewestBays", spec := "fnExactFewestBays", recurses := true, apart := false, narrowed := true }
def FnExactFewestBaysUptoSaid : Prop := fnExactFewestBaysUptoRow.holds Try.pinned (OpenSpec.upto fnExactFewestBaysSpec)

end Rows
end Go.Proofs.Yteaijhmgfddjiaa
