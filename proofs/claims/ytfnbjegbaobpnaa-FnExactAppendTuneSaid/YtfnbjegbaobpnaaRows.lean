/-
  No cell of these rows narrows 'for every input' (looked for: loops, veiled, ifaces, maps, wideKeys, modest, calm, conditions, laid).
  DERIVED. THE GIVEN ROWS OF THIS SEAT. 12 by the template 'for every input the law returns true; each argument reads behind the call as it read before'; 0 by the template 'total and deterministic' (their statements: YtfnbjegbaobpnaaTotals.lean).
  GIVEN WITH THE SEED: the statements are not yours to turn. If you find one false, say at which input.
  Laid BY PROGRAM, IN A SANDBOX (cutbox-rows.mjs): the forced cells as the released guide's own fill.sh prints them over the translation a28a4c17d7d6f50c… (all of the seat's roots in one cut). By AI agents, Wed Nov 11 2026. No macro, syntax, notation, axiom, sorry.
-/
import Derived.Test.YtfnbjegbaobpnaaChecked
import GoSem.Claim
import GoSem.ClaimJoined
import GoSem.ClaimMapViews
import Derived.JoinedTies
import Derived.KernelRfl
namespace Go.Proofs.Ytfnbjegbaobpnaa
/- THE CELL 'sum', in the pinned program and in every row, IS THE sha256 OF THE DUMP (.gsa) THAT YtfnbjegbaobpnaaProg.lean LOADS. Nothing in Lean hashes anything: it is a label: what it is worth is what the hold of that sum in a sandbox is worth. -/
noncomputable def Try.pinned : Pinned := { name := "ytfnbjegbaobpnaa", sum := "a28a4c17d7d6f50ca524c199b048aed994472adb2a835983b3d797fda05e4545", checked := Try.checked }
namespace Rows
def none {H : Type} : Left H := { results := [], args := [] }

/-- 'laws.FnExactSameTune': WHATEVER THE INPUT: true; the input reads as it did. -/
def fnExactSameTuneSpec : ChangeSpec := { name := "fnExactSameTune", fn := fun _ => fun
  | [d1, d2] => { results := [.lit (.bool true)], args := [d1, d2] }
  | _ => none }
def fnExactSameTuneRow : OpenClaim := { program := "ytfnbjegbaobpnaa", sum := "a28a4c17d7d6f50ca524c199b048aed994472adb2a835983b3d797fda05e4545", func := "loop.example/g00952/laws.FnExactSameTune", spec := "fnExactSameTune", apart := false }
def FnExactSameTuneSaid : Prop := fnExactSameTuneRow.holds Try.pinned (OpenSpec.ofChange fnExactSameTuneSpec)

/-- ITS FALSE NEIGHBOUR: 'it returns false'. Refute it at one input. -/
def fnExactSameTuneWrong : ChangeSpec := { name := "fnExactSameTune", fn := fun _ => fun
  | [d1, d2] => { results := [.lit (.bool false)], args := [d1, d2] }
  | _ => none }
def FnExactSameTuneWrongFalsely : Prop := fnExactSameTuneRow.holds Try.pinned (OpenSpec.ofChange fnExactSameTuneWrong)

/-- 'laws.FnExactValidTune': WHATEVER THE INPUT: true; the input reads as it did. -/
def fnExactValidTuneSpec : ChangeSpec := { name := "fnExactValidTune", fn := fun _ => fun
  | [d] => { results := [.lit (.bool true)], args := [d] }
  | _ => none }
def fnExactValidTuneRow : OpenClaim := { program := "ytfnbjegbaobpnaa", sum := "a28a4c17d7d6f50ca524c199b048aed994472adb2a835983b3d797fda05e4545", func := "loop.example/g00952/laws.FnExactValidTune", spec := "fnExactValidTune", apart := false }
def FnExactValidTuneSaid : Prop := fnExactValidTuneRow.holds Try.pinned (OpenSpec.ofChange fnExactValidTuneSpec)

/-- ITS FALSE NEIGHBOUR: 'it returns false'. Refute it at one input. -/
def fnExactValidTuneWrong : ChangeSpec := { name := "fnExactValidTune", fn := fun _ => fun
  | [d] => { results := [.lit (.bool false)], args := [d] }
  | _ => none }
def FnExactValidTuneWrongFalsely : Prop := fnExactValidTuneRow.holds Try.pinned (OpenSpec.ofChange fnExactValidTuneWrong)

/-- 'laws.FnExactTuneEnd': WHATEVER THE INPUT: true; the input reads as it did. -/
def fnExactTuneEndSpec : ChangeSpec := { name := "fnExactTuneEnd", fn := fun _ => fun
  | [d] => { results := [.lit (.bool true)], args := [d] }
  | _ => none }
def fnExactTuneEndRow : OpenClaim := { program := "ytfnbjegbaobpnaa", sum := "a28a4c17d7d6f50ca524c199b048aed994472adb2a835983b3d797fda05e4545", func := "loop.example/g00952/laws.FnExactTuneEnd", spec := "fnExactTuneEnd", apart := false }
def FnExactTuneEndSaid : Prop := fnExactTuneEndRow.holds Try.pinned (OpenSpec.ofChange fnExactTuneEndSpec)

/-- ITS FALSE NEIGHBOUR: 'it returns false'. Refute it at one input. -/
def fnExactTuneEndWrong : ChangeSpec := { name := "fnExactTuneEnd", fn := fun _ => fun
  | [d] => { results := [.lit (.bool false)], args := [d] }
  | _ => none }
def FnExactTuneEndWrongFalsely : Prop := fnExactTuneEndRow.holds Try.pinned (OpenSpec.ofChange fnExactTuneEndWrong)

/-- 'laws.FnExactMostAtOnce': WHATEVER THE INPUT: true; the input reads as it did. -/
def fnExactMostAtOnceSpec : ChangeSpec := { name := "fnExactMostAtOnce", fn := fun _ => fun
  | [d] => { results := [.lit (.bool true)], args := [d] }
  | _ => none }
def fnExactMostAtOnceRow : OpenClaim := { program := "ytfnbjegbaobpnaa", sum := "a28a4c17d7d6f50ca524c199b048aed994472adb2a835983b3d797fda05e4545", func := "loop.example/g00952/laws.FnExactMostAtOnce", spec := "fnExactMostAtOnce", apart := false }
def FnExactMostAtOnceSaid : Prop := fnExactMostAtOnceRow.holds Try.pinned (OpenSpec.ofChange fnExactMostAtOnceSpec)

/-- ITS FALSE NEIGHBOUR: 'it returns false'. Refute it at one input. -/
def fnExactMostAtOnceWrong : ChangeSpec := { name := "fnExactMostAtOnce", fn := fun _ => fun
  | [d] => { results := [.lit (.bool false)], args := [d] }
  | _ => none }
def FnExactMostAtOnceWrongFalsely : Prop := fnExactMostAtOnceRow.holds Try.pinned (OpenSpec.ofChange fnExactMostAtOnceWrong)

/-- 'laws.FnExactNotesUsed': WHATEVER THE INPUT: true; the input reads as it did. -/
def fnExactNotesUsedSpec : ChangeSpec := { name := "fnExactNotesUsed", fn := fun _ => fun
  | [d] => { results := [.lit (.bool true)], args := [d] }
  | _ => none }
def fnExactNotesUsedRow : OpenClaim := { program := "ytfnbjegbaobpnaa", sum := "a28a4c17d7d6f50ca524c199b048aed994472adb2a835983b3d797fda05e4545", func := "loop.example/g00952/laws.FnExactNotesUsed", spec := "fnExactNotesUsed", unfollowed := true, recurses := true, apart := false }
def FnExactNotesUsedSaid : Prop := fnExactNotesUsedRow.holds Try.pinned (OpenSpec.ofChange fnExactNotesUsedSpec)

/-- ITS FALSE NEIGHBOUR: 'it returns false'. Refute it at one input. -/
def fnExactNotesUsedWrong : ChangeSpec := { name := "fnExactNotesUsed", fn := fun _ => fun
  | [d] => { results := [.lit (.bool false)], args := [d] }
  | _ => none }
def FnExactNotesUsedWrongFalsely : Prop := fnExactNotesUsedRow.holds Try.pinned (OpenSpec.ofChange fnExactNotesUsedWrong)

/-- 'laws.FnExactSoundingAt': WHATEVER THE INPUT: true; the input reads as it did. -/
def fnExactSoundingAtSpec : ChangeSpec := { name := "fnExactSoundingAt", fn := fun _ => fun
  | [d1, d2] => { results := [.lit (.bool true)], args := [d1, d2] }
  | _ => none }
def fnExactSoundingAtRow : OpenClaim := { program := "ytfnbjegbaobpnaa", sum := "a28a4c17d7d6f50ca524c199b048aed994472adb2a835983b3d797fda05e4545", func := "loop.example/g00952/laws.FnExactSoundingAt", spec := "fnExactSoundingAt", unfollowed := true, recurses := true, apart := false }
def FnExactSoundingAtSaid : Prop := fnExactSoundingAtRow.holds Try.pinned (OpenSpec.ofChange fnExactSoundingAtSpec)

/-- ITS FALSE NEIGHBOUR: 'it returns false'. Refute it at one input. -/
def fnExactSoundingAtWrong : ChangeSpec := { name := "fnExactSoundingAt", fn := fun _ => fun
  | [d1, d2] => { results := [.lit (.bool false)], args := [d1, d2] }
  | _ => none }
def FnExactSoundingAtWrongFalsely : Prop := fnExactSoundingAtRow.holds Try.pinned (OpenSpec.ofChange fnExactSoundingAtWrong)

/-- 'laws.FnExactTransposeTune': WHATEVER THE INPUT: true; the input reads as it did. -/
def fnExactTransposeTuneSpec : ChangeSpec := { name := "fnExactTransposeTune", fn := fun _ => fun
  | [d1, d2] => { results := [.lit (.bool true)], args := [d1, d2] }
  | _ => none }
def fnExactTransposeTuneRow : OpenClaim := { program := "ytfnbjegbaobpnaa", sum := "a28a4c17d7d6f50ca524c199b048aed994472adb2a835983b3d797fda05e4545", func := "loop.example/g00952/laws.FnExactTransposeTune", spec := "fnExactTransposeTune", unfollowed := true, recurses := true, apart := false }
def FnExactTransposeTuneSaid : Prop := fnExactTransposeTuneRow.holds Try.pinned (OpenSpec.ofChange fnExactTransposeTuneSpec)

/-- ITS FALSE NEIGHBOUR: 'it returns false'. Refute it at one input. -/
def fnExactTransposeTuneWrong : ChangeSpec := { name := "fnExactTransposeTune", fn := fun _ => fun
  | [d1, d2] => { results := [.lit (.bool false)], args := [d1, d2] }
  | _ => none }
def FnExactTransposeTuneWrongFalsely : Prop := fnExactTransposeTuneRow.holds Try.pinned (OpenSpec.ofChange fnExactTransposeTuneWrong)

/-- 'laws.FnExactStretchTune': WHATEVER THE INPUT: true; the input reads as it did. -/
def fnExactStretchTuneSpec : ChangeSpec := { name := "fnExactStretchTune", fn := fun _ => fun
  | [d1, d2, d3] => { results := [.lit (.bool true)], args := [d1, d2, d3] }
  | _ => none }
def fnExactStretchTuneRow : OpenClaim := { program := "ytfnbjegbaobpnaa", sum := "a28a4c17d7d6f50ca524c199b048aed994472adb2a835983b3d797fda05e4545", func := "loop.example/g00952/laws.FnExactStretchTune", spec := "fnExactStretchTune", unfollowed := true, recurses := true, apart := false }
def FnExactStretchTuneSaid : Prop := fnExactStretchTuneRow.holds Try.pinned (OpenSpec.ofChange fnExactStretchTuneSpec)

/-- ITS FALSE NEIGHBOUR: 'it returns false'. Refute it at one input. -/
def fnExactStretchTuneWrong : ChangeSpec := { name := "fnExactStretchTune", fn := fun _ => fun
  | [d1, d2, d3] => { results := [.lit (.bool false)], args := [d1, d2, d3] }
  | _ => none }
def FnExactStretchTuneWrongFalsely : Prop := fnExactStretchTuneRow.holds Try.pinned (OpenSpec.ofChange fnExactStretchTuneWrong)

/-- 'laws.FnExactAppendTune': WHATEVER THE INPUT: true; the input reads as it did. -/
def fnExactAppendTuneSpec : ChangeSpec := { name := "fnExactAppendTune", fn := fun _ => fun
  | [d1, d2, d3] => { results := [.lit (.bool true)], args := [d1, d2, d3] }
  | _ => none }
def fnExactAppendTuneRow : OpenClaim := { program := "ytfnbjegbaobpnaa", sum := "a28a4c17d7d6f50ca524c199b048aed994472adb2a835983b3d797fda05e4545", func := "loop.example/g00952/laws.FnExactAppendTune", spec := "fnExactAppendTune", unfollowed := true, recurses := true, apart := false }
def FnExactAppendTuneSaid : Prop := fnExactAppendTuneRow.holds Try.pinned (OpenSpec.ofChange fnExactAppendTuneSpec)

/-- ITS FALSE NEIGHBOUR: 'it returns false'. Refute it at one input. -/
def fnExactAppendTuneWrong : ChangeSpec := { name := "fnExactAppendTune", fn := fun _ => fun
  | [d1, d2, d3] => { results := [.lit (.bool false)], args := [d1, d2, d3] }
  | _ => none }
def FnExactAppendTuneWrongFalsely : Prop := fnExactAppendTuneRow.holds Try.pinned (OpenSpec.ofChange fnExactAppendTuneWrong)

/-- 'laws.FnExactMergeTunes': WHATEVER THE INPUT: true; the input reads as it did. -/
def fnExactMergeTunesSpec : ChangeSpec := { name := "fnExactMergeTunes", fn := fun _ => fun
  | [d1, d2] => { results := [.lit (.bool true)], args := [d1, d2] }
  | _ => none }
def fnExactMergeTunesRow : OpenClaim := { program := "ytfnbjegbaobpnaa", sum := "a28a4c17d7d6f50ca524c199b048aed994472adb2a835983b3d797fda05e4545", func := "loop.example/g00952/laws.FnExactMergeTunes", spec := "fnExactMergeTunes", unfollowed := true, recurses := true, apart := false }
def FnExactMergeTunesSaid : Prop := fnExactMergeTunesRow.holds Try.pinned (OpenSpec.ofChange fnExactMergeTunesSpec)

/-- ITS FALSE NEIGHBOUR: 'it returns false'. Refute it at one input. -/
def fnExactMergeTunesWrong : ChangeSpec := { name := "fnExactMergeTunes", fn := fun _ => fun
  | [d1, d2] => { results := [.lit (.bool false)], args := [d1, d2] }
  | _ => none }
def FnExactMergeTunesWrongFalsely : Prop := fnExactMergeTunesRow.holds Try.pinned (OpenSpec.ofChange fnExactMergeTunesWrong)

/-- 'laws.FnExactReverseTune': WHATEVER THE INPUT: true; the input reads as it did. -/
def fnExactReverseTuneSpec : ChangeSpec := { name := "fnExactReverseTune", fn := fun _ => fun
  | [d] => { results := [.lit (.bool true)], args := [d] }
  | _ => none }
def fnExactReverseTuneRow : OpenClaim := { program := "ytfnbjegbaobpnaa", sum := "a28a4c17d7d6f50ca524c199b048aed994472adb2a835983b3d797fda05e4545", func := "loop.example/g00952/laws.FnExactReverseTune", spec := "fnExactReverseTune", unfollowed := true, recurses := true, apart := false }
def FnExactReverseTuneSaid : Prop := fnExactReverseTuneRow.holds Try.pinned (OpenSpec.ofChange fnExactReverseTuneSpec)

/-- ITS FALSE NEIGHBOUR: 'it returns false'. Refute it at one input. -/
def fnExactReverseTuneWrong : ChangeSpec := { name := "fnExactReverseTune", fn := fun _ => fun
  | [d] => { results := [.lit (.bool false)], args := [d] }
  | _ => none }
def FnExactReverseTuneWrongFalsely : Prop := fnExactReverseTuneRow.holds Try.pinned (OpenSpec.ofChange fnExactReverseTuneWrong)

/-- 'laws.FnReverse': WHATEVER THE INPUT: true; the input reads as it did. -/
def fnReverseSpec : ChangeSpec := { name := "fnReverse", fn := fun _ => fun
  | [d] => { results := [.lit (.bool true)], args := [d] }
  | _ => none }
def fnReverseRow : OpenClaim := { program := "ytfnbjegbaobpnaa", sum := "a28a4c17d7d6f50ca524c199b048aed994472adb2a835983b3d797fda05e4545", func := "loop.example/g00952/laws.FnReverse", spec := "fnReverse", unfollowed := true, recurses := true, apart := false }
def FnReverseSaid : Prop := fnReverseRow.holds Try.pinned (OpenSpec.ofChange fnReverseSpec)

/-- ITS FALSE NEIGHBOUR: 'it returns false'. Refute it at one input. -/
def fnReverseWrong : ChangeSpec := { name := "fnReverse", fn := fun _ => fun
  | [d] => { results := [.lit (.bool false)], args := [d] }
  | _ => none }
def FnReverseWrongFalsely : Prop := fnReverseRow.holds Try.pinned (OpenSpec.ofChange fnReverseWrong)

/- THE SECOND FORM. 'bulk': how many values and letters a reading holds, each counted each time it is reached (what is shared counts as often as it is met; a slice's spare places count too). A statement '..UptoSaid' is the law's where the arguments, and the package variables that the reading takes, are together of bulk at most 1048576: NARROWER than '..Said'. Prove '..Said' where nothing that the law and all that it calls make is longer than what came in: it says more and counts as full. Else prove '..UptoSaid'. A law counts once. -/
mutual
def uptoBulk {H : Type} : DataW H → Nat
  | .lit (.string bytes) => bytes.length + 1
  | .lit _ => 1
  | .nil => 1
  | .ptr d => uptoBulk d + 1
  | .slice elems spare => uptoBulkAll elems + uptoBulkAll spare + 1
  | .agg parts => uptoBulkAll parts + 1
  | .iface _ d => uptoBulk d + 1
  | .map entries => uptoBulkEntries entries + 1
  | .held _ => 1
def uptoBulkAll {H : Type} : List (DataW H) → Nat
  | [] => 0
  | d :: r => uptoBulk d + uptoBulkAll r
def uptoBulkEntries {H : Type} : List (Lit × DataW H) → Nat
  | [] => 0
  | x :: r => uptoBulkEntry x + uptoBulkEntries r
def uptoBulkEntry {H : Type} : Lit × DataW H → Nat
  | (.string bytes, d) => bytes.length + uptoBulk d + 1
  | (_, d) => uptoBulk d + 1
 end
def uptoSmall : (H : Type) → List (DataW H) → Bool := fun _ ds => decide (uptoBulkAll ds ≤ 1048576)
def OpenSpec.upto (s : _root_.Go.ChangeSpec) : _root_.Go.OpenSpec := { _root_.Go.OpenSpec.ofChange s with cond := some uptoSmall }

/-- 'laws.FnExactSameTune', WHERE WHAT IT READS IS OF BULK AT MOST 1048576: true; the input reads as it did. -/
def fnExactSameTuneUptoRow : OpenClaim := { program := "ytfnbjegbaobpnaa", sum := "a28a4c17d7d6f50ca524c199b048aed994472adb2a835983b3d797fda05e4545", func := "loop.example/g00952/laws.FnExactSameTune", spec := "fnExactSameTune", apart := false, narrowed := true }
def FnExactSameTuneUptoSaid : Prop := fnExactSameTuneUptoRow.holds Try.pinned (OpenSpec.upto fnExactSameTuneSpec)

/-- 'laws.FnExactValidTune', WHERE WHAT IT READS IS OF BULK AT MOST 1048576: true; the input reads as it did. -/
def fnExactValidTuneUptoRow : OpenClaim := { program := "ytfnbjegbaobpnaa", sum := "a28a4c17d7d6f50ca524c199b048aed994472adb2a835983b3d797fda05e4545", func := "loop.example/g00952/laws.FnExactValidTune", spec := "fnExactValidTune", apart := false, narrowed := true }
def FnExactValidTuneUptoSaid : Prop := fnExactValidTuneUptoRow.holds Try.pinned (OpenSpec.upto fnExactValidTuneSpec)

/-- 'laws.FnExactTuneEnd', WHERE WHAT IT READS IS OF BULK AT MOST 1048576: true; the input reads as it did. -/
def fnExactTuneEndUptoRow : OpenClaim := { program := "ytfnbjegbaobpnaa", sum := "a28a4c17d7d6f50ca524c199b048aed994472adb2a835983b3d797fda05e4545", func := "loop.example/g00952/laws.FnExactTuneEnd", spec := "fnExactTuneEnd", apart := false, narrowed := true }
def FnExactTuneEndUptoSaid : Prop := fnExactTuneEndUptoRow.holds Try.pinned (OpenSpec.upto fnExactTuneEndSpec)

/-- 'laws.FnExactMostAtOnce', WHERE WHAT IT READS IS OF BULK AT MOST 1048576: true; the input reads as it did. -/
def fnExactMostAtOnceUptoRow : OpenClaim := { program := "ytfnbjegbaobpnaa", sum := "a28a4c17d7d6f50ca524c199b048aed994472adb2a835983b3d797fda05e4545", func := "loop.example/g00952/laws.FnExactMostAtOnce", spec := "fnExactMostAtOnce", apart := false, narrowed := true }
def FnExactMostAtOnceUptoSaid : Prop := fnExactMostAtOnceUptoRow.holds Try.pinned (OpenSpec.upto fnExactMostAtOnceSpec)

/-- 'laws.FnExactNotesUsed', WHERE WHAT IT READS IS OF BULK AT MOST 1048576: true; the input reads as it did. -/
def fnExactNotesUsedUptoRow : OpenClaim := { program := "ytfnbjegbaobpnaa", sum := "a28a4c17d7d6f50ca524c199b048aed994472adb2a835983b3d797fda05e4545", func := "loop.example/g00952/laws.FnExactNotesUsed", spec := "fnExactNotesUsed", unfollowed := true, recurses := true, apart := false, narrowed := true }
def FnExactNotesUsedUptoSaid : Prop := fnExactNotesUsedUptoRow.holds Try.pinned (OpenSpec.upto fnExactNotesUsedSpec)

/-- 'laws.FnExactSoundingAt', WHERE WHAT IT READS IS OF BULK AT MOST 1048576: true; the input reads as it did. -/
def fnExactSoundingAtUptoRow : OpenClaim := { program := "ytfnbjegbaobpnaa", sum := "a28a4c17d7d6f50ca524c199b048aed994472adb2a835983b3d797fda05e4545", func := "loop.example/g00952/laws.FnExactSoundingAt", spec := "fnExactSoundingAt", unfollowed := true, recurses := true, apart := false, narrowed := true }
def FnExactSoundingAtUptoSaid : Prop := fnExactSoundingAtUptoRow.holds Try.pinned (OpenSpec.upto fnExactSoundingAtSpec)

/-- 'laws.FnExactTransposeTune', WHERE WHAT IT READS IS OF BULK AT MOST 1048576: true; the input reads as it did. -/
def fnExactTransposeTuneUptoRow : OpenClaim := { program := "ytfnbjegbaobpnaa", sum := "a28a4c17d7d6f50ca524c199b048aed994472adb2a835983b3d797fda05e4545", func := "loop.example/g00952/laws.FnExactTransposeTune", spec := "fnExactTransposeTune", unfollowed := true, recurses := true, apart := false, narrowed := true }
def FnExactTransposeTuneUptoSaid : Prop := fnExactTransposeTuneUptoRow.holds Try.pinned (OpenSpec.upto fnExactTransposeTuneSpec)

/-- 'laws.FnExactStretchTune', WHERE WHAT IT READS IS OF BULK AT MOST 1048576: true; the input reads as it did. -/
def fnExactStretchTuneUptoRow : OpenClaim := { program := "ytfnbjegbaobpnaa", sum := "a28a4c17d7d6f50ca524c199b048aed994472adb2a835983b3d797fda05e4545", func := "loop.example/g00952/laws.FnExactStretchTune", spec := "fnExactStretchTune", unfollowed := true, recurses := true, apart := false, narrowed := true }
def FnExactStretchTuneUptoSaid : Prop := fnExactStretchTuneUptoRow.holds Try.pinned (OpenSpec.upto fnExactStretchTuneSpec)

/-- 'laws.FnExactAppendTune', WHERE WHAT IT READS IS OF BULK AT MOST 1048576: true; the input reads as it did. -/
def fnExactAppendTuneUptoRow : OpenClaim := { program := "ytfnbjegbaobpnaa", sum := "a28a4c17d7d6f50ca524c199b048aed994472adb2a835983b3d797fda05e4545", func := "loop.example/g00952/laws.FnExactAppendTune", spec := "fnExactAppendTune", unfollowed := true, recurses := true, apart := false, narrowed := true }
def FnExactAppendTuneUptoSaid : Prop := fnExactAppendTuneUptoRow.holds Try.pinned (OpenSpec.upto fnExactAppendTuneSpec)

/-- 'laws.FnExactMergeTunes', WHERE WHAT IT READS IS OF BULK AT MOST 1048576: true; the input reads as it did. -/
def fnExactMergeTunesUptoRow : OpenClaim := { program := "ytfnbjegbaobpnaa", sum := "a28a4c17d7d6f50ca524c199b048aed994472adb2a835983b3d797fda05e4545", func := "loop.example/g00952/laws.FnExactMergeTunes", spec := "fnExactMergeTunes", unfollowed := true, recurses := true, apart := false, narrowed := true }
def FnExactMergeTunesUptoSaid : Prop := fnExactMergeTunesUptoRow.holds Try.pinned (OpenSpec.upto fnExactMergeTunesSpec)

/-- 'laws.FnExactReverseTune', WHERE WHAT IT READS IS OF BULK AT MOST 1048576: true; the input reads as it did. -/
def fnExactReverseTuneUptoRow : OpenClaim := { program := "ytfnbjegbaobpnaa", sum := "a28a4c17d7d6f50ca524c199b048aed994472adb2a835983b3d797fda05e4545", func := "loop.example/g00952/laws.FnExactReverseTune", spec := "fnExactReverseTune", unfollowed := true, recurses := true, apart := false, narrowed := true }
def FnExactReverseTuneUptoSaid : Prop := fnExactReverseTuneUptoRow.holds Try.pinned (OpenSpec.upto fnExactReverseTuneSpec)

/-- 'laws.FnReverse', WHERE WHAT IT READS IS OF BULK AT MOST 1048576: true; the input reads as it did. -/
def fnReverseUptoRow : OpenClaim := { program := "ytfnbjegbaobpnaa", sum := "a28a4c17d7d6f50ca524c199b048aed994472adb2a835983b3d797fda05e4545", func := "loop.example/g00952/laws.FnReverse", spec := "fnReverse", unfollowed := true, recurses := true, apart := false, narrowed := true }
def FnReverseUptoSaid : Prop := fnReverseUptoRow.holds Try.pinned (OpenSpec.upto fnReverseSpec)

end Rows
end Go.Proofs.Ytfnbjegbaobpnaa
