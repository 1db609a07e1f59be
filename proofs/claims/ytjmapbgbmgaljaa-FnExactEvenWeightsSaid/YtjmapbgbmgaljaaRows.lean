/-
  No cell of these rows narrows 'for every input' (looked for: loops, veiled, ifaces, maps, wideKeys, modest, calm, conditions, laid).
  DERIVED. THE GIVEN ROWS OF THIS SEAT. 12 by the template 'for every input the law returns true; each argument reads behind the call as it read before'; 0 by the template 'total and deterministic' (their statements: YtjmapbgbmgaljaaTotals.lean).
  GIVEN WITH THE SEED: the statements are not yours to turn. If you find one false, say at which input.
  Laid BY PROGRAM, IN A SANDBOX (cutbox-rows.mjs): the forced cells as the released guide's own fill.sh prints them over the translation ce45f59696c21e2b… (all of the seat's roots in one cut). By AI agents, Wed Nov 11 2026. No macro, syntax, notation, axiom, sorry.
-/
import Derived.Test.YtjmapbgbmgaljaaChecked
import GoSem.Claim
import GoSem.ClaimJoined
import GoSem.ClaimMapViews
import Derived.JoinedTies
import Derived.KernelRfl
namespace Go.Proofs.Ytjmapbgbmgaljaa
/- THE CELL 'sum', in the pinned program and in every row, IS THE sha256 OF THE DUMP (.gsa) THAT YtjmapbgbmgaljaaProg.lean LOADS. Nothing in Lean hashes anything: it is a label: what it is worth is what the hold of that sum in a sandbox is worth. -/
noncomputable def Try.pinned : Pinned := { name := "ytjmapbgbmgaljaa", sum := "ce45f59696c21e2bfdad696a8d0febd1ae8c3a51e956e16a27948557d54265ea", checked := Try.checked }
namespace Rows
def none {H : Type} : Left H := { results := [], args := [] }

/-- 'laws.FnExactSameAction': WHATEVER THE INPUT: true; the input reads as it did. -/
def fnExactSameActionSpec : ChangeSpec := { name := "fnExactSameAction", fn := fun _ => fun
  | [d1, d2] => { results := [.lit (.bool true)], args := [d1, d2] }
  | _ => none }
def fnExactSameActionRow : OpenClaim := { program := "ytjmapbgbmgaljaa", sum := "ce45f59696c21e2bfdad696a8d0febd1ae8c3a51e956e16a27948557d54265ea", func := "loop.example/g00952/laws.FnExactSameAction", spec := "fnExactSameAction", apart := false }
def FnExactSameActionSaid : Prop := fnExactSameActionRow.holds Try.pinned (OpenSpec.ofChange fnExactSameActionSpec)

/-- ITS FALSE NEIGHBOUR: 'it returns false'. Refute it at one input. -/
def fnExactSameActionWrong : ChangeSpec := { name := "fnExactSameAction", fn := fun _ => fun
  | [d1, d2] => { results := [.lit (.bool false)], args := [d1, d2] }
  | _ => none }
def FnExactSameActionWrongFalsely : Prop := fnExactSameActionRow.holds Try.pinned (OpenSpec.ofChange fnExactSameActionWrong)

/-- 'laws.FnExactValidAction': WHATEVER THE INPUT: true; the input reads as it did. -/
def fnExactValidActionSpec : ChangeSpec := { name := "fnExactValidAction", fn := fun _ => fun
  | [d] => { results := [.lit (.bool true)], args := [d] }
  | _ => none }
def fnExactValidActionRow : OpenClaim := { program := "ytjmapbgbmgaljaa", sum := "ce45f59696c21e2bfdad696a8d0febd1ae8c3a51e956e16a27948557d54265ea", func := "loop.example/g00952/laws.FnExactValidAction", spec := "fnExactValidAction", unfollowed := true, recurses := true, apart := false }
def FnExactValidActionSaid : Prop := fnExactValidActionRow.holds Try.pinned (OpenSpec.ofChange fnExactValidActionSpec)

/-- ITS FALSE NEIGHBOUR: 'it returns false'. Refute it at one input. -/
def fnExactValidActionWrong : ChangeSpec := { name := "fnExactValidAction", fn := fun _ => fun
  | [d] => { results := [.lit (.bool false)], args := [d] }
  | _ => none }
def FnExactValidActionWrongFalsely : Prop := fnExactValidActionRow.holds Try.pinned (OpenSpec.ofChange fnExactValidActionWrong)

/-- 'laws.FnExactValidClavier': WHATEVER THE INPUT: true; the input reads as it did. -/
def fnExactValidClavierSpec : ChangeSpec := { name := "fnExactValidClavier", fn := fun _ => fun
  | [d] => { results := [.lit (.bool true)], args := [d] }
  | _ => none }
def fnExactValidClavierRow : OpenClaim := { program := "ytjmapbgbmgaljaa", sum := "ce45f59696c21e2bfdad696a8d0febd1ae8c3a51e956e16a27948557d54265ea", func := "loop.example/g00952/laws.FnExactValidClavier", spec := "fnExactValidClavier", unfollowed := true, recurses := true, apart := false }
def FnExactValidClavierSaid : Prop := fnExactValidClavierRow.holds Try.pinned (OpenSpec.ofChange fnExactValidClavierSpec)

/-- ITS FALSE NEIGHBOUR: 'it returns false'. Refute it at one input. -/
def fnExactValidClavierWrong : ChangeSpec := { name := "fnExactValidClavier", fn := fun _ => fun
  | [d] => { results := [.lit (.bool false)], args := [d] }
  | _ => none }
def FnExactValidClavierWrongFalsely : Prop := fnExactValidClavierRow.holds Try.pinned (OpenSpec.ofChange fnExactValidClavierWrong)

/-- 'laws.FnExactTouchOf': WHATEVER THE INPUT: true; the input reads as it did. -/
def fnExactTouchOfSpec : ChangeSpec := { name := "fnExactTouchOf", fn := fun _ => fun
  | [d] => { results := [.lit (.bool true)], args := [d] }
  | _ => none }
def fnExactTouchOfRow : OpenClaim := { program := "ytjmapbgbmgaljaa", sum := "ce45f59696c21e2bfdad696a8d0febd1ae8c3a51e956e16a27948557d54265ea", func := "loop.example/g00952/laws.FnExactTouchOf", spec := "fnExactTouchOf", unfollowed := true, recurses := true, apart := false }
def FnExactTouchOfSaid : Prop := fnExactTouchOfRow.holds Try.pinned (OpenSpec.ofChange fnExactTouchOfSpec)

/-- ITS FALSE NEIGHBOUR: 'it returns false'. Refute it at one input. -/
def fnExactTouchOfWrong : ChangeSpec := { name := "fnExactTouchOf", fn := fun _ => fun
  | [d] => { results := [.lit (.bool false)], args := [d] }
  | _ => none }
def FnExactTouchOfWrongFalsely : Prop := fnExactTouchOfRow.holds Try.pinned (OpenSpec.ofChange fnExactTouchOfWrong)

/-- 'laws.FnExactKeyFor': WHATEVER THE INPUT: true; the input reads as it did. -/
def fnExactKeyForSpec : ChangeSpec := { name := "fnExactKeyFor", fn := fun _ => fun
  | [d1, d2] => { results := [.lit (.bool true)], args := [d1, d2] }
  | _ => none }
def fnExactKeyForRow : OpenClaim := { program := "ytjmapbgbmgaljaa", sum := "ce45f59696c21e2bfdad696a8d0febd1ae8c3a51e956e16a27948557d54265ea", func := "loop.example/g00952/laws.FnExactKeyFor", spec := "fnExactKeyFor", unfollowed := true, recurses := true, apart := false }
def FnExactKeyForSaid : Prop := fnExactKeyForRow.holds Try.pinned (OpenSpec.ofChange fnExactKeyForSpec)

/-- ITS FALSE NEIGHBOUR: 'it returns false'. Refute it at one input. -/
def fnExactKeyForWrong : ChangeSpec := { name := "fnExactKeyFor", fn := fun _ => fun
  | [d1, d2] => { results := [.lit (.bool false)], args := [d1, d2] }
  | _ => none }
def FnExactKeyForWrongFalsely : Prop := fnExactKeyForRow.holds Try.pinned (OpenSpec.ofChange fnExactKeyForWrong)

/-- 'laws.FnExactRatioOf': WHATEVER THE INPUT: true; the input reads as it did. -/
def fnExactRatioOfSpec : ChangeSpec := { name := "fnExactRatioOf", fn := fun _ => fun
  | [d] => { results := [.lit (.bool true)], args := [d] }
  | _ => none }
def fnExactRatioOfRow : OpenClaim := { program := "ytjmapbgbmgaljaa", sum := "ce45f59696c21e2bfdad696a8d0febd1ae8c3a51e956e16a27948557d54265ea", func := "loop.example/g00952/laws.FnExactRatioOf", spec := "fnExactRatioOf", unfollowed := true, recurses := true, apart := false }
def FnExactRatioOfSaid : Prop := fnExactRatioOfRow.holds Try.pinned (OpenSpec.ofChange fnExactRatioOfSpec)

/-- ITS FALSE NEIGHBOUR: 'it returns false'. Refute it at one input. -/
def fnExactRatioOfWrong : ChangeSpec := { name := "fnExactRatioOf", fn := fun _ => fun
  | [d] => { results := [.lit (.bool false)], args := [d] }
  | _ => none }
def FnExactRatioOfWrongFalsely : Prop := fnExactRatioOfRow.holds Try.pinned (OpenSpec.ofChange fnExactRatioOfWrong)

/-- 'laws.FnExactMotionAt': WHATEVER THE INPUT: true; the input reads as it did. -/
def fnExactMotionAtSpec : ChangeSpec := { name := "fnExactMotionAt", fn := fun _ => fun
  | [d1, d2] => { results := [.lit (.bool true)], args := [d1, d2] }
  | _ => none }
def fnExactMotionAtRow : OpenClaim := { program := "ytjmapbgbmgaljaa", sum := "ce45f59696c21e2bfdad696a8d0febd1ae8c3a51e956e16a27948557d54265ea", func := "loop.example/g00952/laws.FnExactMotionAt", spec := "fnExactMotionAt", unfollowed := true, recurses := true, apart := false }
def FnExactMotionAtSaid : Prop := fnExactMotionAtRow.holds Try.pinned (OpenSpec.ofChange fnExactMotionAtSpec)

/-- ITS FALSE NEIGHBOUR: 'it returns false'. Refute it at one input. -/
def fnExactMotionAtWrong : ChangeSpec := { name := "fnExactMotionAt", fn := fun _ => fun
  | [d1, d2] => { results := [.lit (.bool false)], args := [d1, d2] }
  | _ => none }
def FnExactMotionAtWrongFalsely : Prop := fnExactMotionAtRow.holds Try.pinned (OpenSpec.ofChange fnExactMotionAtWrong)

/-- 'laws.FnExactTravelFor': WHATEVER THE INPUT: true; the input reads as it did. -/
def fnExactTravelForSpec : ChangeSpec := { name := "fnExactTravelFor", fn := fun _ => fun
  | [d1, d2] => { results := [.lit (.bool true)], args := [d1, d2] }
  | _ => none }
def fnExactTravelForRow : OpenClaim := { program := "ytjmapbgbmgaljaa", sum := "ce45f59696c21e2bfdad696a8d0febd1ae8c3a51e956e16a27948557d54265ea", func := "loop.example/g00952/laws.FnExactTravelFor", spec := "fnExactTravelFor", unfollowed := true, recurses := true, apart := false }
def FnExactTravelForSaid : Prop := fnExactTravelForRow.holds Try.pinned (OpenSpec.ofChange fnExactTravelForSpec)

/-- ITS FALSE NEIGHBOUR: 'it returns false'. Refute it at one input. -/
def fnExactTravelForWrong : ChangeSpec := { name := "fnExactTravelFor", fn := fun _ => fun
  | [d1, d2] => { results := [.lit (.bool false)], args := [d1, d2] }
  | _ => none }
def FnExactTravelForWrongFalsely : Prop := fnExactTravelForRow.holds Try.pinned (OpenSpec.ofChange fnExactTravelForWrong)

/-- 'laws.FnExactSlackAfter': WHATEVER THE INPUT: true; the input reads as it did. -/
def fnExactSlackAfterSpec : ChangeSpec := { name := "fnExactSlackAfter", fn := fun _ => fun
  | [d1, d2, d3] => { results := [.lit (.bool true)], args := [d1, d2, d3] }
  | _ => none }
def fnExactSlackAfterRow : OpenClaim := { program := "ytjmapbgbmgaljaa", sum := "ce45f59696c21e2bfdad696a8d0febd1ae8c3a51e956e16a27948557d54265ea", func := "loop.example/g00952/laws.FnExactSlackAfter", spec := "fnExactSlackAfter", unfollowed := true, recurses := true, apart := false }
def FnExactSlackAfterSaid : Prop := fnExactSlackAfterRow.holds Try.pinned (OpenSpec.ofChange fnExactSlackAfterSpec)

/-- ITS FALSE NEIGHBOUR: 'it returns false'. Refute it at one input. -/
def fnExactSlackAfterWrong : ChangeSpec := { name := "fnExactSlackAfter", fn := fun _ => fun
  | [d1, d2, d3] => { results := [.lit (.bool false)], args := [d1, d2, d3] }
  | _ => none }
def FnExactSlackAfterWrongFalsely : Prop := fnExactSlackAfterRow.holds Try.pinned (OpenSpec.ofChange fnExactSlackAfterWrong)

/-- 'laws.FnTouch': WHATEVER THE INPUT: true; the input reads as it did. -/
def fnTouchSpec : ChangeSpec := { name := "fnTouch", fn := fun _ => fun
  | [d] => { results := [.lit (.bool true)], args := [d] }
  | _ => none }
def fnTouchRow : OpenClaim := { program := "ytjmapbgbmgaljaa", sum := "ce45f59696c21e2bfdad696a8d0febd1ae8c3a51e956e16a27948557d54265ea", func := "loop.example/g00952/laws.FnTouch", spec := "fnTouch", unfollowed := true, recurses := true, apart := false }
def FnTouchSaid : Prop := fnTouchRow.holds Try.pinned (OpenSpec.ofChange fnTouchSpec)

/-- ITS FALSE NEIGHBOUR: 'it returns false'. Refute it at one input. -/
def fnTouchWrong : ChangeSpec := { name := "fnTouch", fn := fun _ => fun
  | [d] => { results := [.lit (.bool false)], args := [d] }
  | _ => none }
def FnTouchWrongFalsely : Prop := fnTouchRow.holds Try.pinned (OpenSpec.ofChange fnTouchWrong)

/-- 'laws.FnExactUnevenKeys': WHATEVER THE INPUT: true; the input reads as it did. -/
def fnExactUnevenKeysSpec : ChangeSpec := { name := "fnExactUnevenKeys", fn := fun _ => fun
  | [d1, d2] => { results := [.lit (.bool true)], args := [d1, d2] }
  | _ => none }
def fnExactUnevenKeysRow : OpenClaim := { program := "ytjmapbgbmgaljaa", sum := "ce45f59696c21e2bfdad696a8d0febd1ae8c3a51e956e16a27948557d54265ea", func := "loop.example/g00952/laws.FnExactUnevenKeys", spec := "fnExactUnevenKeys", unfollowed := true, recurses := true, apart := false }
def FnExactUnevenKeysSaid : Prop := fnExactUnevenKeysRow.holds Try.pinned (OpenSpec.ofChange fnExactUnevenKeysSpec)

/-- ITS FALSE NEIGHBOUR: 'it returns false'. Refute it at one input. -/
def fnExactUnevenKeysWrong : ChangeSpec := { name := "fnExactUnevenKeys", fn := fun _ => fun
  | [d1, d2] => { results := [.lit (.bool false)], args := [d1, d2] }
  | _ => none }
def FnExactUnevenKeysWrongFalsely : Prop := fnExactUnevenKeysRow.holds Try.pinned (OpenSpec.ofChange fnExactUnevenKeysWrong)

/-- 'laws.FnExactEvenWeights': WHATEVER THE INPUT: true; the input reads as it did. -/
def fnExactEvenWeightsSpec : ChangeSpec := { name := "fnExactEvenWeights", fn := fun _ => fun
  | [d1, d2] => { results := [.lit (.bool true)], args := [d1, d2] }
  | _ => none }
def fnExactEvenWeightsRow : OpenClaim := { program := "ytjmapbgbmgaljaa", sum := "ce45f59696c21e2bfdad696a8d0febd1ae8c3a51e956e16a27948557d54265ea", func := "loop.example/g00952/laws.FnExactEvenWeights", spec := "fnExactEvenWeights", unfollowed := true, recurses := true, apart := false }
def FnExactEvenWeightsSaid : Prop := fnExactEvenWeightsRow.holds Try.pinned (OpenSpec.ofChange fnExactEvenWeightsSpec)

/-- ITS FALSE NEIGHBOUR: 'it returns false'. Refute it at one input. -/
def fnExactEvenWeightsWrong : ChangeSpec := { name := "fnExactEvenWeights", fn := fun _ => fun
  | [d1, d2] => { results := [.lit (.bool false)], args := [d1, d2] }
  | _ => none }
def FnExactEvenWeightsWrongFalsely : Prop := fnExactEvenWeightsRow.holds Try.pinned (OpenSpec.ofChange fnExactEvenWeightsWrong)

/- THE SECOND FORM. 'bulk': how many values and letters a reading holds, each counted each time it is reached (what is shared counts as often as it is met; a slice's spare places count too). A statement '..UptoSaid' is the law's where the arguments, and the package variables that the reading takes, are together of bulk at most 1048576: NARROWER than '..Said'. Prove '..Said' where nothing that the law and all that it calls make is longer than what came in: it says more and counts as full. Else prove '..UptoSaid'. A law counts once. -/
mutual
def uptoBulk {H : Type} : DataW H → Nat
  | .lit (.string bytes) => bytes.length + 1
  | .lit _ => 1
  | .nil => 1
  | .ptr d => uptoBulk d + 1
  | .slice elems spare => uptoBulkAll elems + uptoBulkAll spare + 1
  | .agg parts => uptoBulkAll parts + 1
  | .iface _ d => uptoBulk d + 1
  | .map entries => uptoBulkEntries entries + 1
  | .held _ => 1
def uptoBulkAll {H : Type} : List (DataW H) → Nat
  | [] => 0
  | d :: r => uptoBulk d + uptoBulkAll r
def uptoBulkEntries {H : Type} : List (Lit × DataW H) → Nat
  | [] => 0
  | x :: r => uptoBulkEntry x + uptoBulkEntries r
def uptoBulkEntry {H : Type} : Lit × DataW H → Nat
  | (.string bytes, d) => bytes.length + uptoBulk d + 1
  | (_, d) => uptoBulk d + 1
 end
def uptoSmall : (H : Type) → List (DataW H) → Bool := fun _ ds => decide (uptoBulkAll ds ≤ 1048576)
def OpenSpec.upto (s : _root_.Go.ChangeSpec) : _root_.Go.OpenSpec := { _root_.Go.OpenSpec.ofChange s with cond := some uptoSmall }

/-- 'laws.FnExactSameAction', WHERE WHAT IT READS IS OF BULK AT MOST 1048576: true; the input reads as it did. -/
def fnExactSameActionUptoRow : OpenClaim := { program := "ytjmapbgbmgaljaa", sum := "ce45f59696c21e2bfdad696a8d0febd1ae8c3a51e956e16a27948557d54265ea", func := "loop.example/g00952/laws.FnExactSameAction", spec := "fnExactSameAction", apart := false, narrowed := true }
def FnExactSameActionUptoSaid : Prop := fnExactSameActionUptoRow.holds Try.pinned (OpenSpec.upto fnExactSameActionSpec)

/-- 'laws.FnExactValidAction', WHERE WHAT IT READS IS OF BULK AT MOST 1048576: true; the input reads as it did. -/
def fnExactValidActionUptoRow : OpenClaim := { program := "ytjmapbgbmgaljaa", sum := "ce45f59696c21e2bfdad696a8d0febd1ae8c3a51e956e16a27948557d54265ea", func := "loop.example/g00952/laws.FnExactValidAction", spec := "fnExactValidAction", unfollowed := true, recurses := true, apart := false, narrowed := true }
def FnExactValidActionUptoSaid : Prop := fnExactValidActionUptoRow.holds Try.pinned (OpenSpec.upto fnExactValidActionSpec)

/-- 'laws.FnExactValidClavier', WHERE WHAT IT READS IS OF BULK AT MOST 1048576: true; the input reads as it did. -/
def fnExactValidClavierUptoRow : OpenClaim := { program := "ytjmapbgbmgaljaa", sum := "ce45f59696c21e2bfdad696a8d0febd1ae8c3a51e956e16a27948557d54265ea", func := "loop.example/g00952/laws.FnExactValidClavier", spec := "fnExactValidClavier", unfollowed := true, recurses := true, apart := false, narrowed := true }
def FnExactValidClavierUptoSaid : Prop := fnExactValidClavierUptoRow.holds Try.pinned (OpenSpec.upto fnExactValidClavierSpec)

/-- 'laws.FnExactTouchOf', WHERE WHAT IT READS IS OF BULK AT MOST 1048576: true; the input reads as it did. -/
def fnExactTouchOfUptoRow : OpenClaim := { program := "ytjmapbgbmgaljaa", sum := "ce45f59696c21e2bfdad696a8d0febd1ae8c3a51e956e16a27948557d54265ea", func := "loop.example/g00952/laws.FnExactTouchOf", spec := "fnExactTouchOf", unfollowed := true, recurses := true, apart := false, narrowed := true }
def FnExactTouchOfUptoSaid : Prop := fnExactTouchOfUptoRow.holds Try.pinned (OpenSpec.upto fnExactTouchOfSpec)

/-- 'laws.FnExactKeyFor', WHERE WHAT IT READS IS OF BULK AT MOST 1048576: true; the input reads as it did. -/
def fnExactKeyForUptoRow : OpenClaim := { program := "ytjmapbgbmgaljaa", sum := "ce45f59696c21e2bfdad696a8d0febd1ae8c3a51e956e16a27948557d54265ea", func := "loop.example/g00952/laws.FnExactKeyFor", spec := "fnExactKeyFor", unfollowed := true, recurses := true, apart := false, narrowed := true }
def FnExactKeyForUptoSaid : Prop := fnExactKeyForUptoRow.holds Try.pinned (OpenSpec.upto fnExactKeyForSpec)

/-- 'laws.FnExactRatioOf', WHERE WHAT IT READS IS OF BULK AT MOST 1048576: true; the input reads as it did. -/
def fnExactRatioOfUptoRow : OpenClaim := { program := "ytjmapbgbmgaljaa", sum := "ce45f59696c21e2bfdad696a8d0febd1ae8c3a51e956e16a27948557d54265ea", func := "loop.example/g00952/laws.FnExactRatioOf", spec := "fnExactRatioOf", unfollowed := true, recurses := true, apart := false, narrowed := true }
def FnExactRatioOfUptoSaid : Prop := fnExactRatioOfUptoRow.holds Try.pinned (OpenSpec.upto fnExactRatioOfSpec)

/-- 'laws.FnExactMotionAt', WHERE WHAT IT READS IS OF BULK AT MOST 1048576: true; the input reads as it did. -/
def fnExactMotionAtUptoRow : OpenClaim := { program := "ytjmapbgbmgaljaa", sum := "ce45f59696c21e2bfdad696a8d0febd1ae8c3a51e956e16a27948557d54265ea", func := "loop.example/g00952/laws.FnExactMotionAt", spec := "fnExactMotionAt", unfollowed := true, recurses := true, apart := false, narrowed := true }
def FnExactMotionAtUptoSaid : Prop := fnExactMotionAtUptoRow.holds Try.pinned (OpenSpec.upto fnExactMotionAtSpec)

/-- 'laws.FnExactTravelFor', WHERE WHAT IT READS IS OF BULK AT MOST 1048576: true; the input reads as it did. -/
def fnExactTravelForUptoRow : OpenClaim := { program := "ytjmapbgbmgaljaa", sum := "ce45f59696c21e2bfdad696a8d0febd1ae8c3a51e956e16a27948557d54265ea", func := "loop.example/g00952/laws.FnExactTravelFor", spec := "fnExactTravelFor", unfollowed := true, recurses := true, apart := false, narrowed := true }
def FnExactTravelForUptoSaid : Prop := fnExactTravelForUptoRow.holds Try.pinned (OpenSpec.upto fnExactTravelForSpec)

/-- 'laws.FnExactSlackAfter', WHERE WHAT IT READS IS OF BULK AT MOST 1048576: true; the input reads as it did. -/
def fnExactSlackAfterUptoRow : OpenClaim := { program := "ytjmapbgbmgaljaa", sum := "ce45f59696c21e2bfdad696a8d0febd1ae8c3a51e956e16a27948557d54265ea", func := "loop.example/g00952/laws.FnExactSlackAfter", spec := "fnExactSlackAfter", unfollowed := true, recurses := true, apart := false, narrowed := true }
def FnExactSlackAfterUptoSaid : Prop := fnExactSlackAfterUptoRow.holds Try.pinned (OpenSpec.upto fnExactSlackAfterSpec)

/-- 'laws.FnTouch', WHERE WHAT IT READS IS OF BULK AT MOST 1048576: true; the input reads as it did. -/
def fnTouchUptoRow : OpenClaim := { program := "ytjmapbgbmgaljaa", sum := "ce45f59696c21e2bfdad696a8d0febd1ae8c3a51e956e16a27948557d54265ea", func := "loop.example/g00952/laws.FnTouch", spec := "fnTouch", unfollowed := true, recurses := true, apart := false, narrowed := true }
def FnTouchUptoSaid : Prop := fnTouchUptoRow.holds Try.pinned (OpenSpec.upto fnTouchSpec)

/-- 'laws.FnExactUnevenKeys', WHERE WHAT IT READS IS OF BULK AT MOST 1048576: true; the input reads as it did. -/
def fnExactUnevenKeysUptoRow : OpenClaim := { program := "ytjmapbgbmgaljaa", sum := "ce45f59696c21e2bfdad696a8d0febd1ae8c3a51e956e16a27948557d54265ea", func := "loop.example/g00952/laws.FnExactUnevenKeys", spec := "fnExactUnevenKeys", unfollowed := true, recurses := true, apart := false, narrowed := true }
def FnExactUnevenKeysUptoSaid : Prop := fnExactUnevenKeysUptoRow.holds Try.pinned (OpenSpec.upto fnExactUnevenKeysSpec)

/-- 'laws.FnExactEvenWeights', WHERE WHAT IT READS IS OF BULK AT MOST 1048576: true; the input reads as it did. -/
def fnExactEvenWeightsUptoRow : OpenClaim := { program := "ytjmapbgbmgaljaa", sum := "ce45f59696c21e2bfdad696a8d0febd1ae8c3a51e956e16a27948557d54265ea", func := "loop.example/g00952/laws.FnExactEvenWeights", spec := "fnExactEvenWeights", unfollowed := true, recurses := true, apart := false, narrowed := true }
def FnExactEvenWeightsUptoSaid : Prop := fnExactEvenWeightsUptoRow.holds Try.pinned (OpenSpec.upto fnExactEvenWeightsSpec)

end Rows
end Go.Proofs.Ytjmapbgbmgaljaa
