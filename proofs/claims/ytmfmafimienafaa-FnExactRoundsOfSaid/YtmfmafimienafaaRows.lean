/-
  No cell of these rows narrows 'for every input' (looked for: loops, veiled, ifaces, maps, wideKeys, modest, calm, conditions, laid).
  DERIVED. THE GIVEN ROWS OF THIS SEAT. 7 by the template 'for every input the law returns true; each argument reads behind the call as it read before'; 0 by the template 'total and deterministic' (their statements: YtmfmafimienafaaTotals.lean).
  GIVEN WITH THE SEED: the statements are not yours to turn. If you find one false, say at which input.
  Laid BY PROGRAM, IN A SANDBOX (cutbox-rows.mjs): the forced cells as the released guide's own fill.sh prints them over the translation 55fc2febde02f640… (all of the seat's roots in one cut). By AI agents, Wed Nov 11 2026. No macro, syntax, notation, axiom, sorry.
-/
import Derived.Test.YtmfmafimienafaaChecked
import GoSem.Claim
import GoSem.ClaimJoined
import GoSem.ClaimMapViews
import Derived.JoinedTies
import Derived.KernelRfl
namespace Go.Proofs.Ytmfmafimienafaa
/- THE CELL 'sum', in the pinned program and in every row, IS THE sha256 OF THE DUMP (.gsa) THAT YtmfmafimienafaaProg.lean LOADS. Nothing in Lean hashes anything: it is a label: what it is worth is what the hold of that sum in a sandbox is worth. -/
noncomputable def Try.pinned : Pinned := { name := "ytmfmafimienafaa", sum := "55fc2febde02f640483ebb449dc7087e9a6ea0841ddfdf30cb7df94a6c97fda1", checked := Try.checked }
namespace Rows
def none {H : Type} : Left H := { results := [], args := [] }

/-- 'laws.FnExactValidSet': WHATEVER THE INPUT: true; the input reads as it did. -/
def fnExactValidSetSpec : ChangeSpec := { name := "fnExactValidSet", fn := fun _ => fun
  | [d] => { results := [.lit (.bool true)], args := [d] }
  | _ => none }
def fnExactValidSetRow : OpenClaim := { program := "ytmfmafimienafaa", sum := "55fc2febde02f640483ebb449dc7087e9a6ea0841ddfdf30cb7df94a6c97fda1", func := "loop.example/g00952/laws.FnExactValidSet", spec := "fnExactValidSet", apart := false }
def FnExactValidSetSaid : Prop := fnExactValidSetRow.holds Try.pinned (OpenSpec.ofChange fnExactValidSetSpec)

/-- ITS FALSE NEIGHBOUR: 'it returns false'. Refute it at one input. -/
def fnExactValidSetWrong : ChangeSpec := { name := "fnExactValidSet", fn := fun _ => fun
  | [d] => { results := [.lit (.bool false)], args := [d] }
  | _ => none }
def FnExactValidSetWrongFalsely : Prop := fnExactValidSetRow.holds Try.pinned (OpenSpec.ofChange fnExactValidSetWrong)

/-- 'laws.FnStriking': WHATEVER THE INPUT: true; the input reads as it did. -/
def fnStrikingSpec : ChangeSpec := { name := "fnStriking", fn := fun _ => fun
  | [d] => { results := [.lit (.bool true)], args := [d] }
  | _ => none }
def fnStrikingRow : OpenClaim := { program := "ytmfmafimienafaa", sum := "55fc2febde02f640483ebb449dc7087e9a6ea0841ddfdf30cb7df94a6c97fda1", func := "loop.example/g00952/laws.FnStriking", spec := "fnStriking", apart := false }
def FnStrikingSaid : Prop := fnStrikingRow.holds Try.pinned (OpenSpec.ofChange fnStrikingSpec)

/-- ITS FALSE NEIGHBOUR: 'it returns false'. Refute it at one input. -/
def fnStrikingWrong : ChangeSpec := { name := "fnStriking", fn := fun _ => fun
  | [d] => { results := [.lit (.bool false)], args := [d] }
  | _ => none }
def FnStrikingWrongFalsely : Prop := fnStrikingRow.holds Try.pinned (OpenSpec.ofChange fnStrikingWrong)

/-- 'laws.FnExactRoundsOf': WHATEVER THE INPUT: true; the input reads as it did. -/
def fnExactRoundsOfSpec : ChangeSpec := { name := "fnExactRoundsOf", fn := fun _ => fun
  | [d] => { results := [.lit (.bool true)], args := [d] }
  | _ => none }
def fnExactRoundsOfRow : OpenClaim := { program := "ytmfmafimienafaa", sum := "55fc2febde02f640483ebb449dc7087e9a6ea0841ddfdf30cb7df94a6c97fda1", func := "loop.example/g00952/laws.FnExactRoundsOf", spec := "fnExactRoundsOf", apart := false }
def FnExactRoundsOfSaid : Prop := fnExactRoundsOfRow.holds Try.pinned (OpenSpec.ofChange fnExactRoundsOfSpec)

/-- ITS FALSE NEIGHBOUR: 'it returns false'. Refute it at one input. -/
def fnExactRoundsOfWrong : ChangeSpec := { name := "fnExactRoundsOf", fn := fun _ => fun
  | [d] => { results := [.lit (.bool false)], args := [d] }
  | _ => none }
def FnExactRoundsOfWrongFalsely : Prop := fnExactRoundsOfRow.holds Try.pinned (OpenSpec.ofChange fnExactRoundsOfWrong)

/-- 'laws.FnExactValidChange': WHATEVER THE INPUT: true; the input reads as it did. -/
def fnExactValidChangeSpec : ChangeSpec := { name := "fnExactValidChange", fn := fun _ => fun
  | [d1, d2] => { results := [.lit (.bool true)], args := [d1, d2] }
  | _ => none }
def fnExactValidChangeRow : OpenClaim := { program := "ytmfmafimienafaa", sum := "55fc2febde02f640483ebb449dc7087e9a6ea0841ddfdf30cb7df94a6c97fda1", func := "loop.example/g00952/laws.FnExactValidChange", spec := "fnExactValidChange", inPlace := ["internal/bytealg.IndexByteString"], apart := false }
def FnExactValidChangeSaid : Prop := fnExactValidChangeRow.holds Try.pinned (OpenSpec.ofChange fnExactValidChangeSpec)

/-- ITS FALSE NEIGHBOUR: 'it returns false'. Refute it at one input. -/
def fnExactValidChangeWrong : ChangeSpec := { name := "fnExactValidChange", fn := fun _ => fun
  | [d1, d2] => { results := [.lit (.bool false)], args := [d1, d2] }
  | _ => none }
def FnExactValidChangeWrongFalsely : Prop := fnExactValidChangeRow.holds Try.pinned (OpenSpec.ofChange fnExactValidChangeWrong)

/-- 'laws.FnExactSameTune': WHATEVER THE INPUT: true; the input reads as it did. -/
def fnExactSameTuneSpec : ChangeSpec := { name := "fnExactSameTune", fn := fun _ => fun
  | [d1, d2] => { results := [.lit (.bool true)], args := [d1, d2] }
  | _ => none }
def fnExactSameTuneRow : OpenClaim := { program := "ytmfmafimienafaa", sum := "55fc2febde02f640483ebb449dc7087e9a6ea0841ddfdf30cb7df94a6c97fda1", func := "loop.example/g00952/laws.FnExactSameTune", spec := "fnExactSameTune", apart := false }
def FnExactSameTuneSaid : Prop := fnExactSameTuneRow.holds Try.pinned (OpenSpec.ofChange fnExactSameTuneSpec)

/-- ITS FALSE NEIGHBOUR: 'it returns false'. Refute it at one input. -/
def fnExactSameTuneWrong : ChangeSpec := { name := "fnExactSameTune", fn := fun _ => fun
  | [d1, d2] => { results := [.lit (.bool false)], args := [d1, d2] }
  | _ => none }
def FnExactSameTuneWrongFalsely : Prop := fnExactSameTuneRow.holds Try.pinned (OpenSpec.ofChange fnExactSameTuneWrong)

/-- 'laws.FnExactSameAction': WHATEVER THE INPUT: true; the input reads as it did. -/
def fnExactSameActionSpec : ChangeSpec := { name := "fnExactSameAction", fn := fun _ => fun
  | [d1, d2] => { results := [.lit (.bool true)], args := [d1, d2] }
  | _ => none }
def fnExactSameActionRow : OpenClaim := { program := "ytmfmafimienafaa", sum := "55fc2febde02f640483ebb449dc7087e9a6ea0841ddfdf30cb7df94a6c97fda1", func := "loop.example/g00952/laws.FnExactSameAction", spec := "fnExactSameAction", apart := false }
def FnExactSameActionSaid : Prop := fnExactSameActionRow.holds Try.pinned (OpenSpec.ofChange fnExactSameActionSpec)

/-- ITS FALSE NEIGHBOUR: 'it returns false'. Refute it at one input. -/
def fnExactSameActionWrong : ChangeSpec := { name := "fnExactSameAction", fn := fun _ => fun
  | [d1, d2] => { results := [.lit (.bool false)], args := [d1, d2] }
  | _ => none }
def FnExactSameActionWrongFalsely : Prop := fnExactSameActionRow.holds Try.pinned (OpenSpec.ofChange fnExactSameActionWrong)

/-- 'laws.FnExactStrikeErrors': WHATEVER THE INPUT: true; the input reads as it did. -/
def fnExactStrikeErrorsSpec : ChangeSpec := { name := "fnExactStrikeErrors", fn := fun _ => fun
  | [d] => { results := [.lit (.bool true)], args := [d] }
  | _ => none }
def fnExactStrikeErrorsRow : OpenClaim := { program := "ytmfmafimienafaa", sum := "55fc2febde02f640483ebb449dc7087e9a6ea0841ddfdf30cb7df94a6c97fda1", func := "loop.example/g00952/laws.FnExactStrikeErrors", spec := "fnExactStrikeErrors", apart := false }
def FnExactStrikeErrorsSaid : Prop := fnExactStrikeErrorsRow.holds Try.pinned (OpenSpec.ofChange fnExactStrikeErrorsSpec)

/-- ITS FALSE NEIGHBOUR: 'it returns false'. Refute it at one input. -/
def fnExactStrikeErrorsWrong : ChangeSpec := { name := "fnExactStrikeErrors", fn := fun _ => fun
  | [d] => { results := [.lit (.bool false)], args := [d] }
  | _ => none }
def FnExactStrikeErrorsWrongFalsely : Prop := fnExactStrikeErrorsRow.holds Try.pinned (OpenSpec.ofChange fnExactStrikeErrorsWrong)

/- THE SECOND FORM. 'bulk': how many values and letters a reading holds, each counted each time it is reached (what is shared counts as often as it is met; a slice's spare places count too). A statement '..UptoSaid' is the law's where the arguments, and the package variables that the reading takes, are together of bulk at most 1048576: NARROWER than '..Said'. Prove '..Said' where nothing that the law and all that it calls make is longer than what came in: it says more and counts as full. Else prove '..UptoSaid'. A law counts once. -/
mutual
def uptoBulk {H : Type} : DataW H → Nat
  | .lit (.string bytes) => bytes.length + 1
  | .lit _ => 1
  | .nil => 1
  | .ptr d => uptoBulk d + 1
  | .slice elems spare => uptoBulkAll elems + uptoBulkAll spare + 1
  | .agg parts => uptoBulkAll parts + 1
  | .iface _ d => uptoBulk d + 1
  | .map entries => uptoBulkEntries entries + 1
  | .held _ => 1
def uptoBulkAll {H : Type} : List (DataW H) → Nat
  | [] => 0
  | d :: r => uptoBulk d + uptoBulkAll r
def uptoBulkEntries {H : Type} : List (Lit × DataW H) → Nat
  | [] => 0
  | x :: r => uptoBulkEntry x + uptoBulkEntries r
def uptoBulkEntry {H : Type} : Lit × DataW H → Nat
  | (.string bytes, d) => bytes.length + uptoBulk d + 1
  | (_, d) => uptoBulk d + 1
 end
def uptoSmall : (H : Type) → List (DataW H) → Bool := fun _ ds => decide (uptoBulkAll ds ≤ 1048576)
def OpenSpec.upto (s : _root_.Go.ChangeSpec) : _root_.Go.OpenSpec := { _root_.Go.OpenSpec.ofChange s with cond := some uptoSmall }

/-- 'laws.FnExactValidSet', WHERE WHAT IT READS IS OF BULK AT MOST 1048576: true; the input reads as it did. -/
def fnExactValidSetUptoRow : OpenClaim := { program := "ytmfmafimienafaa", sum := "55fc2febde02f640483ebb449dc7087e9a6ea0841ddfdf30cb7df94a6c97fda1", func := "loop.example/g00952/laws.FnExactValidSet", spec := "fnExactValidSet", apart := false, narrowed := true }
def FnExactValidSetUptoSaid : Prop := fnExactValidSetUptoRow.holds Try.pinned (OpenSpec.upto fnExactValidSetSpec)

/-- 'laws.FnStriking', WHERE WHAT IT READS IS OF BULK AT MOST 1048576: true; the input reads as it did. -/
def fnStrikingUptoRow : OpenClaim := { program := "ytmfmafimienafaa", sum := "55fc2febde02f640483ebb449dc7087e9a6ea0841ddfdf30cb7df94a6c97fda1", func := "loop.example/g00952/laws.FnStriking", spec := "fnStriking", apart := false, narrowed := true }
def FnStrikingUptoSaid : Prop := fnStrikingUptoRow.holds Try.pinned (OpenSpec.upto fnStrikingSpec)

/-- 'laws.FnExactRoundsOf', WHERE WHAT IT READS IS OF BULK AT MOST 1048576: true; the input reads as it did. -/
def fnExactRoundsOfUptoRow : OpenClaim := { program := "ytmfmafimienafaa", sum := "55fc2febde02f640483ebb449dc7087e9a6ea0841ddfdf30cb7df94a6c97fda1", func := "loop.example/g00952/laws.FnExactRoundsOf", spec := "fnExactRoundsOf", apart := false, narrowed := true }
def FnExactRoundsOfUptoSaid : Prop := fnExactRoundsOfUptoRow.holds Try.pinned (OpenSpec.upto fnExactRoundsOfSpec)

/-- 'laws.FnExactValidChange', WHERE WHAT IT READS IS OF BULK AT MOST 1048576: true; the input reads as it did. -/
def fnExactValidChangeUptoRow : OpenClaim := { program := "ytmfmafimienafaa", sum := "55fc2febde02f640483ebb449dc7087e9a6ea0841ddfdf30cb7df94a6c97fda1", func := "loop.example/g00952/laws.FnExactValidChange", spec := "fnExactValidChange", inPlace := ["internal/bytealg.IndexByteString"], apart := false, narrowed := true }
def FnExactValidChangeUptoSaid : Prop := fnExactValidChangeUptoRow.holds Try.pinned (OpenSpec.upto fnExactValidChangeSpec)

/-- 'laws.FnExactSameTune', WHERE WHAT IT READS IS OF BULK AT MOST 1048576: true; the input reads as it did. -/
def fnExactSameTuneUptoRow : OpenClaim := { program := "ytmfmafimienafaa", sum := "55fc2febde02f640483ebb449dc7087e9a6ea0841ddfdf30cb7df94a6c97fda1", func := "loop.example/g00952/laws.FnExactSameTune", spec := "fnExactSameTune", apart := false, narrowed := true }
def FnExactSameTuneUptoSaid : Prop := fnExactSameTuneUptoRow.holds Try.pinned (OpenSpec.upto fnExactSameTuneSpec)

/-- 'laws.FnExactSameAction', WHERE WHAT IT READS IS OF BULK AT MOST 1048576: true; the input reads as it did. -/
def fnExactSameActionUptoRow : OpenClaim := { program := "ytmfmafimienafaa", sum := "55fc2febde02f640483ebb449dc7087e9a6ea0841ddfdf30cb7df94a6c97fda1", func := "loop.example/g00952/laws.FnExactSameAction", spec := "fnExactSameAction", apart := false, narrowed := true }
def FnExactSameActionUptoSaid : Prop := fnExactSameActionUptoRow.holds Try.pinned (OpenSpec.upto fnExactSameActionSpec)

/-- 'laws.FnExactStrikeErrors', WHERE WHAT IT READS IS OF BULK AT MOST 1048576: true; the input reads as it did. -/
def fnExactStrikeErrorsUptoRow : OpenClaim := { program := "ytmfmafimienafaa", sum := "55fc2febde02f640483ebb449dc7087e9a6ea0841ddfdf30cb7df94a6c97fda1", func := "loop.example/g00952/laws.FnExactStrikeErrors", spec := "fnExactStrikeErrors", apart := false, narrowed := true }
def FnExactStrikeErrorsUptoSaid : Prop := fnExactStrikeErrorsUptoRow.holds Try.pinned (OpenSpec.upto fnExactStrikeErrorsSpec)

end Rows
end Go.Proofs.Ytmfmafimienafaa
