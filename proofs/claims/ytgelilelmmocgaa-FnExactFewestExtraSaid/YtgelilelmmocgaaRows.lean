/-
  No cell of these rows narrows 'for every input' (looked for: loops, veiled, ifaces, maps, wideKeys, modest, calm, conditions, laid).
  DERIVED. THE GIVEN ROWS OF THIS SEAT. 12 by the template 'for every input the law returns true; each argument reads behind the call as it read before'; 0 by the template 'total and deterministic' (their statements: YtgelilelmmocgaaTotals.lean).
  GIVEN WITH THE SEED: the statements are not yours to turn. If you find one false, say at which input.
  Laid BY PROGRAM, IN A SANDBOX (cutbox-rows.mjs): the forced cells as the released guide's own fill.sh prints them over the translation 493daabdaa91816b… (all of the seat's roots in one cut). By AI agents, Wed Nov 11 2026. No macro, syntax, notation, axiom, sorry.
-/
import Derived.Test.YtgelilelmmocgaaChecked
import GoSem.Claim
import GoSem.ClaimJoined
import GoSem.ClaimMapViews
import Derived.JoinedTies
import Derived.KernelRfl
namespace Go.Proofs.Ytgelilelmmocgaa
/- THE CELL 'sum', in the pinned program and in every row, IS THE sha256 OF THE DUMP (.gsa) THAT YtgelilelmmocgaaProg.lean LOADS. Nothing in Lean hashes anything: it is a label: what it is worth is what the hold of that sum in a sandbox is worth. -/
noncomputable def Try.pinned : Pinned := { name := "ytgelilelmmocgaa", sum := "493daabdaa91816b3aae0f352ecb6ef01ef9c716116888501facb3e94b095c89", checked := Try.checked }
namespace Rows
def none {H : Type} : Left H := { results := [], args := [] }

/-- 'laws.FnExactPlaceNote': WHATEVER THE INPUT: true; the input reads as it did. -/
def fnExactPlaceNoteSpec : ChangeSpec := { name := "fnExactPlaceNote", fn := fun _ => fun
  | [d1, d2] => { results := [.lit (.bool true)], args := [d1, d2] }
  | _ => none }
def fnExactPlaceNoteRow : OpenClaim := { program := "ytgelilelmmocgaa", sum := "493daabdaa91816b3aae0f352ecb6ef01ef9c716116888501facb3e94b095c89", func := "loop.example/g00952/laws.FnExactPlaceNote", spec := "fnExactPlaceNote", apart := false }
def FnExactPlaceNoteSaid : Prop := fnExactPlaceNoteRow.holds Try.pinned (OpenSpec.ofChange fnExactPlaceNoteSpec)

/-- ITS FALSE NEIGHBOUR: 'it returns false'. Refute it at one input. -/
def fnExactPlaceNoteWrong : ChangeSpec := { name := "fnExactPlaceNote", fn := fun _ => fun
  | [d1, d2] => { results := [.lit (.bool false)], args := [d1, d2] }
  | _ => none }
def FnExactPlaceNoteWrongFalsely : Prop := fnExactPlaceNoteRow.holds Try.pinned (OpenSpec.ofChange fnExactPlaceNoteWrong)

/-- 'laws.FnExactMissingTones': WHATEVER THE INPUT: true; the input reads as it did. -/
def fnExactMissingTonesSpec : ChangeSpec := { name := "fnExactMissingTones", fn := fun _ => fun
  | [d1, d2, d3] => { results := [.lit (.bool true)], args := [d1, d2, d3] }
  | _ => none }
def fnExactMissingTonesRow : OpenClaim := { program := "ytgelilelmmocgaa", sum := "493daabdaa91816b3aae0f352ecb6ef01ef9c716116888501facb3e94b095c89", func := "loop.example/g00952/laws.FnExactMissingTones", spec := "fnExactMissingTones", apart := false }
def FnExactMissingTonesSaid : Prop := fnExactMissingTonesRow.holds Try.pinned (OpenSpec.ofChange fnExactMissingTonesSpec)

/-- ITS FALSE NEIGHBOUR: 'it returns false'. Refute it at one input. -/
def fnExactMissingTonesWrong : ChangeSpec := { name := "fnExactMissingTones", fn := fun _ => fun
  | [d1, d2, d3] => { results := [.lit (.bool false)], args := [d1, d2, d3] }
  | _ => none }
def FnExactMissingTonesWrongFalsely : Prop := fnExactMissingTonesRow.holds Try.pinned (OpenSpec.ofChange fnExactMissingTonesWrong)

/-- 'laws.FnExactArrangeTune': WHATEVER THE INPUT: true; the input reads as it did. -/
def fnExactArrangeTuneSpec : ChangeSpec := { name := "fnExactArrangeTune", fn := fun _ => fun
  | [d1, d2, d3] => { results := [.lit (.bool true)], args := [d1, d2, d3] }
  | _ => none }
def fnExactArrangeTuneRow : OpenClaim := { program := "ytgelilelmmocgaa", sum := "493daabdaa91816b3aae0f352ecb6ef01ef9c716116888501facb3e94b095c89", func := "loop.example/g00952/laws.FnExactArrangeTune", spec := "fnExactArrangeTune", unfollowed := true, recurses := true, apart := false }
def FnExactArrangeTuneSaid : Prop := fnExactArrangeTuneRow.holds Try.pinned (OpenSpec.ofChange fnExactArrangeTuneSpec)

/-- ITS FALSE NEIGHBOUR: 'it returns false'. Refute it at one input. -/
def fnExactArrangeTuneWrong : ChangeSpec := { name := "fnExactArrangeTune", fn := fun _ => fun
  | [d1, d2, d3] => { results := [.lit (.bool false)], args := [d1, d2, d3] }
  | _ => none }
def FnExactArrangeTuneWrongFalsely : Prop := fnExactArrangeTuneRow.holds Try.pinned (OpenSpec.ofChange fnExactArrangeTuneWrong)

/-- 'laws.FnExactArrangeCost': WHATEVER THE INPUT: true; the input reads as it did. -/
def fnExactArrangeCostSpec : ChangeSpec := { name := "fnExactArrangeCost", fn := fun _ => fun
  | [d1, d2, d3] => { results := [.lit (.bool true)], args := [d1, d2, d3] }
  | _ => none }
def fnExactArrangeCostRow : OpenClaim := { program := "ytgelilelmmocgaa", sum := "493daabdaa91816b3aae0f352ecb6ef01ef9c716116888501facb3e94b095c89", func := "loop.example/g00952/laws.FnExactArrangeCost", spec := "fnExactArrangeCost", unfollowed := true, recurses := true, apart := false }
def FnExactArrangeCostSaid : Prop := fnExactArrangeCostRow.holds Try.pinned (OpenSpec.ofChange fnExactArrangeCostSpec)

/-- ITS FALSE NEIGHBOUR: 'it returns false'. Refute it at one input. -/
def fnExactArrangeCostWrong : ChangeSpec := { name := "fnExactArrangeCost", fn := fun _ => fun
  | [d1, d2, d3] => { results := [.lit (.bool false)], args := [d1, d2, d3] }
  | _ => none }
def FnExactArrangeCostWrongFalsely : Prop := fnExactArrangeCostRow.holds Try.pinned (OpenSpec.ofChange fnExactArrangeCostWrong)

/-- 'laws.FnExactBestShift': WHATEVER THE INPUT: true; the input reads as it did. -/
def fnExactBestShiftSpec : ChangeSpec := { name := "fnExactBestShift", fn := fun _ => fun
  | [d1, d2] => { results := [.lit (.bool true)], args := [d1, d2] }
  | _ => none }
def fnExactBestShiftRow : OpenClaim := { program := "ytgelilelmmocgaa", sum := "493daabdaa91816b3aae0f352ecb6ef01ef9c716116888501facb3e94b095c89", func := "loop.example/g00952/laws.FnExactBestShift", spec := "fnExactBestShift", unfollowed := true, recurses := true, apart := false }
def FnExactBestShiftSaid : Prop := fnExactBestShiftRow.holds Try.pinned (OpenSpec.ofChange fnExactBestShiftSpec)

/-- ITS FALSE NEIGHBOUR: 'it returns false'. Refute it at one input. -/
def fnExactBestShiftWrong : ChangeSpec := { name := "fnExactBestShift", fn := fun _ => fun
  | [d1, d2] => { results := [.lit (.bool false)], args := [d1, d2] }
  | _ => none }
def FnExactBestShiftWrongFalsely : Prop := fnExactBestShiftRow.holds Try.pinned (OpenSpec.ofChange fnExactBestShiftWrong)

/-- 'laws.FnExactExtraNotes': WHATEVER THE INPUT: true; the input reads as it did. -/
def fnExactExtraNotesSpec : ChangeSpec := { name := "fnExactExtraNotes", fn := fun _ => fun
  | [d1, d2, d3] => { results := [.lit (.bool true)], args := [d1, d2, d3] }
  | _ => none }
def fnExactExtraNotesRow : OpenClaim := { program := "ytgelilelmmocgaa", sum := "493daabdaa91816b3aae0f352ecb6ef01ef9c716116888501facb3e94b095c89", func := "loop.example/g00952/laws.FnExactExtraNotes", spec := "fnExactExtraNotes", unfollowed := true, recurses := true, apart := false }
def FnExactExtraNotesSaid : Prop := fnExactExtraNotesRow.holds Try.pinned (OpenSpec.ofChange fnExactExtraNotesSpec)

/-- ITS FALSE NEIGHBOUR: 'it returns false'. Refute it at one input. -/
def fnExactExtraNotesWrong : ChangeSpec := { name := "fnExactExtraNotes", fn := fun _ => fun
  | [d1, d2, d3] => { results := [.lit (.bool false)], args := [d1, d2, d3] }
  | _ => none }
def FnExactExtraNotesWrongFalsely : Prop := fnExactExtraNotesRow.holds Try.pinned (OpenSpec.ofChange fnExactExtraNotesWrong)

/-- 'laws.FnExactFewestExtra': WHATEVER THE INPUT: true; the input reads as it did. -/
def fnExactFewestExtraSpec : ChangeSpec := { name := "fnExactFewestExtra", fn := fun _ => fun
  | [d1, d2] => { results := [.lit (.bool true)], args := [d1, d2] }
  | _ => none }
def fnExactFewestExtraRow : OpenClaim := { program := "ytgelilelmmocgaa", sum := "493daabdaa91816b3aae0f352ecb6ef01ef9c716116888501facb3e94b095c89", func := "loop.example/g00952/laws.FnExactFewestExtra", spec := "fnExactFewestExtra", unfollowed := true, recurses := true, apart := false }
def FnExactFewestExtraSaid : Prop := fnExactFewestExtraRow.holds Try.pinned (OpenSpec.ofChange fnExactFewestExtraSpec)

/-- ITS FALSE NEIGHBOUR: 'it returns false'. Refute it at one input. -/
def fnExactFewestExtraWrong : ChangeSpec := { name := "fnExactFewestExtra", fn := fun _ => fun
  | [d1, d2] => { results := [.lit (.bool false)], args := [d1, d2] }
  | _ => none }
def FnExactFewestExtraWrongFalsely : Prop := fnExactFewestExtraRow.holds Try.pinned (OpenSpec.ofChange fnExactFewestExtraWrong)

/-- 'laws.FnExactFastRepeats': WHATEVER THE INPUT: true; the input reads as it did. -/
def fnExactFastRepeatsSpec : ChangeSpec := { name := "fnExactFastRepeats", fn := fun _ => fun
  | [d1, d2] => { results := [.lit (.bool true)], args := [d1, d2] }
  | _ => none }
def fnExactFastRepeatsRow : OpenClaim := { program := "ytgelilelmmocgaa", sum := "493daabdaa91816b3aae0f352ecb6ef01ef9c716116888501facb3e94b095c89", func := "loop.example/g00952/laws.FnExactFastRepeats", spec := "fnExactFastRepeats", unfollowed := true, recurses := true, apart := false }
def FnExactFastRepeatsSaid : Prop := fnExactFastRepeatsRow.holds Try.pinned (OpenSpec.ofChange fnExactFastRepeatsSpec)

/-- ITS FALSE NEIGHBOUR: 'it returns false'. Refute it at one input. -/
def fnExactFastRepeatsWrong : ChangeSpec := { name := "fnExactFastRepeats", fn := fun _ => fun
  | [d1, d2] => { results := [.lit (.bool false)], args := [d1, d2] }
  | _ => none }
def FnExactFastRepeatsWrongFalsely : Prop := fnExactFastRepeatsRow.holds Try.pinned (OpenSpec.ofChange fnExactFastRepeatsWrong)

/-- 'laws.FnExactThinTune': WHATEVER THE INPUT: true; the input reads as it did. -/
def fnExactThinTuneSpec : ChangeSpec := { name := "fnExactThinTune", fn := fun _ => fun
  | [d1, d2] => { results := [.lit (.bool true)], args := [d1, d2] }
  | _ => none }
def fnExactThinTuneRow : OpenClaim := { program := "ytgelilelmmocgaa", sum := "493daabdaa91816b3aae0f352ecb6ef01ef9c716116888501facb3e94b095c89", func := "loop.example/g00952/laws.FnExactThinTune", spec := "fnExactThinTune", unfollowed := true, recurses := true, apart := false }
def FnExactThinTuneSaid : Prop := fnExactThinTuneRow.holds Try.pinned (OpenSpec.ofChange fnExactThinTuneSpec)

/-- ITS FALSE NEIGHBOUR: 'it returns false'. Refute it at one input. -/
def fnExactThinTuneWrong : ChangeSpec := { name := "fnExactThinTune", fn := fun _ => fun
  | [d1, d2] => { results := [.lit (.bool false)], args := [d1, d2] }
  | _ => none }
def FnExactThinTuneWrongFalsely : Prop := fnExactThinTuneRow.holds Try.pinned (OpenSpec.ofChange fnExactThinTuneWrong)

/-- 'laws.FnExactIsPlayable': WHATEVER THE INPUT: true; the input reads as it did. -/
def fnExactIsPlayableSpec : ChangeSpec := { name := "fnExactIsPlayable", fn := fun _ => fun
  | [d1, d2, d3] => { results := [.lit (.bool true)], args := [d1, d2, d3] }
  | _ => none }
def fnExactIsPlayableRow : OpenClaim := { program := "ytgelilelmmocgaa", sum := "493daabdaa91816b3aae0f352ecb6ef01ef9c716116888501facb3e94b095c89", func := "loop.example/g00952/laws.FnExactIsPlayable", spec := "fnExactIsPlayable", unfollowed := true, recurses := true, apart := false }
def FnExactIsPlayableSaid : Prop := fnExactIsPlayableRow.holds Try.pinned (OpenSpec.ofChange fnExactIsPlayableSpec)

/-- ITS FALSE NEIGHBOUR: 'it returns false'. Refute it at one input. -/
def fnExactIsPlayableWrong : ChangeSpec := { name := "fnExactIsPlayable", fn := fun _ => fun
  | [d1, d2, d3] => { results := [.lit (.bool false)], args := [d1, d2, d3] }
  | _ => none }
def FnExactIsPlayableWrongFalsely : Prop := fnExactIsPlayableRow.holds Try.pinned (OpenSpec.ofChange fnExactIsPlayableWrong)

/-- 'laws.FnArranging': WHATEVER THE INPUT: true; the input reads as it did. -/
def fnArrangingSpec : ChangeSpec := { name := "fnArranging", fn := fun _ => fun
  | [d1, d2] => { results := [.lit (.bool true)], args := [d1, d2] }
  | _ => none }
def fnArrangingRow : OpenClaim := { program := "ytgelilelmmocgaa", sum := "493daabdaa91816b3aae0f352ecb6ef01ef9c716116888501facb3e94b095c89", func := "loop.example/g00952/laws.FnArranging", spec := "fnArranging", unfollowed := true, recurses := true, apart := false }
def FnArrangingSaid : Prop := fnArrangingRow.holds Try.pinned (OpenSpec.ofChange fnArrangingSpec)

/-- ITS FALSE NEIGHBOUR: 'it returns false'. Refute it at one input. -/
def fnArrangingWrong : ChangeSpec := { name := "fnArranging", fn := fun _ => fun
  | [d1, d2] => { results := [.lit (.bool false)], args := [d1, d2] }
  | _ => none }
def FnArrangingWrongFalsely : Prop := fnArrangingRow.holds Try.pinned (OpenSpec.ofChange fnArrangingWrong)

/-- 'laws.FnFewest': WHATEVER THE INPUT: true; the input reads as it did. -/
def fnFewestSpec : ChangeSpec := { name := "fnFewest", fn := fun _ => fun
  | [d1, d2] => { results := [.lit (.bool true)], args := [d1, d2] }
  | _ => none }
def fnFewestRow : OpenClaim := { program := "ytgelilelmmocgaa", sum := "493daabdaa91816b3aae0f352ecb6ef01ef9c716116888501facb3e94b095c89", func := "loop.example/g00952/laws.FnFewest", spec := "fnFewest", unfollowed := true, recurses := true, apart := false }
def FnFewestSaid : Prop := fnFewestRow.holds Try.pinned (OpenSpec.ofChange fnFewestSpec)

/-- ITS FALSE NEIGHBOUR: 'it returns false'. Refute it at one input. -/
def fnFewestWrong : ChangeSpec := { name := "fnFewest", fn := fun _ => fun
  | [d1, d2] => { results := [.lit (.bool false)], args := [d1, d2] }
  | _ => none }
def FnFewestWrongFalsely : Prop := fnFewestRow.holds Try.pinned (OpenSpec.ofChange fnFewestWrong)

/- THE SECOND FORM. 'bulk': how many values and letters a reading holds, each counted each time it is reached (what is shared counts as often as it is met; a slice's spare places count too). A statement '..UptoSaid' is the law's where the arguments, and the package variables that the reading takes, are together of bulk at most 1048576: NARROWER than '..Said'. Prove '..Said' where nothing that the law and all that it calls make is longer than what came in: it says more and counts as full. Else prove '..UptoSaid'. A law counts once. -/
mutual
def uptoBulk {H : Type} : DataW H → Nat
  | .lit (.string bytes) => bytes.length + 1
  | .lit _ => 1
  | .nil => 1
  | .ptr d => uptoBulk d + 1
  | .slice elems spare => uptoBulkAll elems + uptoBulkAll spare + 1
  | .agg parts => uptoBulkAll parts + 1
  | .iface _ d => uptoBulk d + 1
  | .map entries => uptoBulkEntries entries + 1
  | .held _ => 1
def uptoBulkAll {H : Type} : List (DataW H) → Nat
  | [] => 0
  | d :: r => uptoBulk d + uptoBulkAll r
def uptoBulkEntries {H : Type} : List (Lit × DataW H) → Nat
  | [] => 0
  | x :: r => uptoBulkEntry x + uptoBulkEntries r
def uptoBulkEntry {H : Type} : Lit × DataW H → Nat
  | (.string bytes, d) => bytes.length + uptoBulk d + 1
  | (_, d) => uptoBulk d + 1
 end
def uptoSmall : (H : Type) → List (DataW H) → Bool := fun _ ds => decide (uptoBulkAll ds ≤ 1048576)
def OpenSpec.upto (s : _root_.Go.ChangeSpec) : _root_.Go.OpenSpec := { _root_.Go.OpenSpec.ofChange s with cond := some uptoSmall }

/-- 'laws.FnExactPlaceNote', WHERE WHAT IT READS IS OF BULK AT MOST 1048576: true; the input reads as it did. -/
def fnExactPlaceNoteUptoRow : OpenClaim := { program := "ytgelilelmmocgaa", sum := "493daabdaa91816b3aae0f352ecb6ef01ef9c716116888501facb3e94b095c89", func := "loop.example/g00952/laws.FnExactPlaceNote", spec := "fnExactPlaceNote", apart := false, narrowed := true }
def FnExactPlaceNoteUptoSaid : Prop := fnExactPlaceNoteUptoRow.holds Try.pinned (OpenSpec.upto fnExactPlaceNoteSpec)

/-- 'laws.FnExactMissingTones', WHERE WHAT IT READS IS OF BULK AT MOST 1048576: true; the input reads as it did. -/
def fnExactMissingTonesUptoRow : OpenClaim := { program := "ytgelilelmmocgaa", sum := "493daabdaa91816b3aae0f352ecb6ef01ef9c716116888501facb3e94b095c89", func := "loop.example/g00952/laws.FnExactMissingTones", spec := "fnExactMissingTones", apart := false, narrowed := true }
def FnExactMissingTonesUptoSaid : Prop := fnExactMissingTonesUptoRow.holds Try.pinned (OpenSpec.upto fnExactMissingTonesSpec)

/-- 'laws.FnExactArrangeTune', WHERE WHAT IT READS IS OF BULK AT MOST 1048576: true; the input reads as it did. -/
def fnExactArrangeTuneUptoRow : OpenClaim := { program := "ytgelilelmmocgaa", sum := "493daabdaa91816b3aae0f352ecb6ef01ef9c716116888501facb3e94b095c89", func := "loop.example/g00952/laws.FnExactArrangeTune", spec := "fnExactArrangeTune", unfollowed := true, recurses := true, apart := false, narrowed := true }
def FnExactArrangeTuneUptoSaid : Prop := fnExactArrangeTuneUptoRow.holds Try.pinned (OpenSpec.upto fnExactArrangeTuneSpec)

/-- 'laws.FnExactArrangeCost', WHERE WHAT IT READS IS OF BULK AT MOST 1048576: true; the input reads as it did. -/
def fnExactArrangeCostUptoRow : OpenClaim := { program := "ytgelilelmmocgaa", sum := "493daabdaa91816b3aae0f352ecb6ef01ef9c716116888501facb3e94b095c89", func := "loop.example/g00952/laws.FnExactArrangeCost", spec := "fnExactArrangeCost", unfollowed := true, recurses := true, apart := false, narrowed := true }
def FnExactArrangeCostUptoSaid : Prop := fnExactArrangeCostUptoRow.holds Try.pinned (OpenSpec.upto fnExactArrangeCostSpec)

/-- 'laws.FnExactBestShift', WHERE WHAT IT READS IS OF BULK AT MOST 1048576: true; the input reads as it did. -/
def fnExactBestShiftUptoRow : OpenClaim := { program := "ytgelilelmmocgaa", sum := "493daabdaa91816b3aae0f352ecb6ef01ef9c716116888501facb3e94b095c89", func := "loop.example/g00952/laws.FnExactBestShift", spec := "fnExactBestShift", unfollowed := true, recurses := true, apart := false, narrowed := true }
def FnExactBestShiftUptoSaid : Prop := fnExactBestShiftUptoRow.holds Try.pinned (OpenSpec.upto fnExactBestShiftSpec)

/-- 'laws.FnExactExtraNotes', WHERE WHAT IT READS IS OF BULK AT MOST 1048576: true; the input reads as it did. -/
def fnExactExtraNotesUptoRow : OpenClaim := { program := "ytgelilelmmocgaa", sum := "493daabdaa91816b3aae0f352ecb6ef01ef9c716116888501facb3e94b095c89", func := "loop.example/g00952/laws.FnExactExtraNotes", spec := "fnExactExtraNotes", unfollowed := true, recurses := true, apart := false, narrowed := true }
def FnExactExtraNotesUptoSaid : Prop := fnExactExtraNotesUptoRow.holds Try.pinned (OpenSpec.upto fnExactExtraNotesSpec)

/-- 'laws.FnExactFewestExtra', WHERE WHAT IT READS IS OF BULK AT MOST 1048576: true; the input reads as it did. -/
def fnExactFewestExtraUptoRow : OpenClaim := { program := "ytgelilelmmocgaa", sum := "493daabdaa91816b3aae0f352ecb6ef01ef9c716116888501facb3e94b095c89", func := "loop.example/g00952/laws.FnExactFewestExtra", spec := "fnExactFewestExtra", unfollowed := true, recurses := true, apart := false, narrowed := true }
def FnExactFewestExtraUptoSaid : Prop := fnExactFewestExtraUptoRow.holds Try.pinned (OpenSpec.upto fnExactFewestExtraSpec)

/-- 'laws.FnExactFastRepeats', WHERE WHAT IT READS IS OF BULK AT MOST 1048576: true; the input reads as it did. -/
def fnExactFastRepeatsUptoRow : OpenClaim := { program := "ytgelilelmmocgaa", sum := "493daabdaa91816b3aae0f352ecb6ef01ef9c716116888501facb3e94b095c89", func := "loop.example/g00952/laws.FnExactFastRepeats", spec := "fnExactFastRepeats", unfollowed := true, recurses := true, apart := false, narrowed := true }
def FnExactFastRepeatsUptoSaid : Prop := fnExactFastRepeatsUptoRow.holds Try.pinned (OpenSpec.upto fnExactFastRepeatsSpec)

/-- 'laws.FnExactThinTune', WHERE WHAT IT READS IS OF BULK AT MOST 1048576: true; the input reads as it did. -/
def fnExactThinTuneUptoRow : OpenClaim := { program := "ytgelilelmmocgaa", sum := "493daabdaa91816b3aae0f352ecb6ef01ef9c716116888501facb3e94b095c89", func := "loop.example/g00952/laws.FnExactThinTune", spec := "fnExactThinTune", unfollowed := true, recurses := true, apart := false, narrowed := true }
def FnExactThinTuneUptoSaid : Prop := fnExactThinTuneUptoRow.holds Try.pinned (OpenSpec.upto fnExactThinTuneSpec)

/-- 'laws.FnExactIsPlayable', WHERE WHAT IT READS IS OF BULK AT MOST 1048576: true; the input reads as it did. -/
def fnExactIsPlayableUptoRow : OpenClaim := { program := "ytgelilelmmocgaa", sum := "493daabdaa91816b3aae0f352ecb6ef01ef9c716116888501facb3e94b095c89", func := "loop.example/g00952/laws.FnExactIsPlayable", spec := "fnExactIsPlayable", unfollowed := true, recurses := true, apart := false, narrowed := true }
def FnExactIsPlayableUptoSaid : Prop := fnExactIsPlayableUptoRow.holds Try.pinned (OpenSpec.upto fnExactIsPlayableSpec)

/-- 'laws.FnArranging', WHERE WHAT IT READS IS OF BULK AT MOST 1048576: true; the input reads as it did. -/
def fnArrangingUptoRow : OpenClaim := { program := "ytgelilelmmocgaa", sum := "493daabdaa91816b3aae0f352ecb6ef01ef9c716116888501facb3e94b095c89", func := "loop.example/g00952/laws.FnArranging", spec := "fnArranging", unfollowed := true, recurses := true, apart := false, narrowed := true }
def FnArrangingUptoSaid : Prop := fnArrangingUptoRow.holds Try.pinned (OpenSpec.upto fnArrangingSpec)

/-- 'laws.FnFewest', WHERE WHAT IT READS IS OF BULK AT MOST 1048576: true; the input reads as it did. -/
def fnFewestUptoRow : OpenClaim := { program := "ytgelilelmmocgaa", sum := "493daabdaa91816b3aae0f352ecb6ef01ef9c716116888501facb3e94b095c89", func := "loop.example/g00952/laws.FnFewest", spec := "fnFewest", unfollowed := true, recurses := true, apart := false, narrowed := true }
def FnFewestUptoSaid : Prop := fnFewestUptoRow.holds Try.pinned (OpenSpec.upto fnFewestSpec)

end Rows
end Go.Proofs.Ytgelilelmmocgaa
