/-
  DERIVED. GIVEN WITH THE SEED: THE CARDS: each row of YtgdfecnpkjnhnaaDoorRows.lean that lists a variable, with what it lists TIED to the program's text (the seventh form; the later family's looks); each row that meets fmt, with fmt's text TOLD by the authors' own Lean function (tested against real Go, not proved from fmt's source: count such statements apart). THE CARD IS WHAT COUNTS. Prove the row's statement (the work); the ties are given (YtgdfecnpkjnhnaaDoorTie.lean); close each card by the builder's one call (the guide's Derived/Test/ToyasCard.lean, 'card_holds'). Laid BY PROGRAM, IN A SANDBOX (cutbox-door.mjs). By AI agents, Wed Nov 11 2026. No macro, syntax, notation, axiom, sorry.
-/
import Derived.Test.YtgdfecnpkjnhnaaDoorRows
import GoSem.ClaimSeven
namespace Go.Proofs.YtgdfecnpkjnhnaaDoor
namespace Rows

/-- THE TIED CARD OF 'laws.FnExactSplitMethod'. -/
def fnExactSplitMethodCard : Claim7 := { stood := { row := fnExactSplitMethodRow, standIns := [], harness := (true, "449dc02a095706768a6322ec20ddedf41d0754e5df24f9ce7091da24159ad52f"), looks := true }, kinds := [], alts := [], laidByText := true, laidKinds := [.data, .pinned], laidTests := true, laidLooks := .later }
def FnExactSplitMethodCardSaid : Prop := Claim7.holds Tryd.pinned (.plain (OpenSpec.ofChange fnExactSplitMethodSpec)) fnExactSplitMethodCard

/-- THE TIED CARD OF 'laws.FnExactTuneText'. -/
def fnExactTuneTextCard : Claim7 := { stood := { row := fnExactTuneTextRow, standIns := [], harness := (true, "449dc02a095706768a6322ec20ddedf41d0754e5df24f9ce7091da24159ad52f"), looks := true }, kinds := [], alts := [], laidByText := true, laidKinds := [.data, .data, .data], laidTests := true, laidLooks := .later }
def FnExactTuneTextCardSaid : Prop := Claim7.holds Tryd.pinned (.plain (OpenSpec.ofChange fnExactTuneTextSpec)) fnExactTuneTextCard

/-- THE TIED CARD OF 'laws.FnExactMethodRows'. -/
def fnExactMethodRowsCard : Claim7 := { stood := { row := fnExactMethodRowsRow, standIns := [], harness := (true, "449dc02a095706768a6322ec20ddedf41d0754e5df24f9ce7091da24159ad52f"), looks := true }, kinds := [], alts := [], laidByText := true, laidKinds := [.data, .pinned], laidTests := true, laidLooks := .later }
def FnExactMethodRowsCardSaid : Prop := Claim7.holds Tryd.pinned (.plain (OpenSpec.ofChange fnExactMethodRowsSpec)) fnExactMethodRowsCard

/-- THE TIED CARD OF 'laws.FnExactReadTune'. -/
def fnExactReadTuneCard : Claim7 := { stood := { row := fnExactReadTuneRow, standIns := [], harness := (true, "449dc02a095706768a6322ec20ddedf41d0754e5df24f9ce7091da24159ad52f"), looks := true }, kinds := [], alts := [], laidByText := true, laidKinds := [.data, .data, .data, .data, .sentinel, .sentinel, .pinned], laidTests := true, laidLooks := .later }
def FnExactReadTuneCardSaid : Prop := Claim7.holds Tryd.pinned (.plain (OpenSpec.ofChange fnExactReadTuneSpec)) fnExactReadTuneCard

/-- THE SECOND FORM's CARD OF 'laws.FnExactSplitMethod'. -/
def fnExactSplitMethodUptoCard : Claim7 := { stood := { row := fnExactSplitMethodUptoRow, standIns := [], harness := (true, "449dc02a095706768a6322ec20ddedf41d0754e5df24f9ce7091da24159ad52f"), looks := true }, kinds := [], alts := [], laidByText := true, laidKinds := [.data, .pinned], laidTests := true, laidLooks := .later }
def FnExactSplitMethodUptoCardSaid : Prop := Claim7.holds Tryd.pinned (.plain (OpenSpec.upto fnExactSplitMethodSpec)) fnExactSplitMethodUptoCard

/-- THE SECOND FORM's CARD OF 'laws.FnExactTuneText'. -/
def fnExactTuneTextUptoCard : Claim7 := { stood := { row := fnExactTuneTextUptoRow, standIns := [], harness := (true, "449dc02a095706768a6322ec20ddedf41d0754e5df24f9ce7091da24159ad52f"), looks := true }, kinds := [], alts := [], laidByText := true, laidKinds := [.data, .data, .data], laidTests := true, laidLooks := .later }
def FnExactTuneTextUptoCardSaid : Prop := Claim7.holds Tryd.pinned (.plain (OpenSpec.upto fnExactTuneTextSpec)) fnExactTuneTextUptoCard

/-- THE SECOND FORM's CARD OF 'laws.FnExactMethodRows'. -/
def fnExactMethodRowsUptoCard : Claim7 := { stood := { row := fnExactMethodRowsUptoRow, standIns := [], harness := (true, "449dc02a095706768a6322ec20ddedf41d0754e5df24f9ce7091da24159ad52f"), looks := true }, kinds := [], alts := [], laidByText := true, laidKinds := [.data, .pinned], laidTests := true, laidLooks := .later }
def FnExactMethodRowsUptoCardSaid : Prop := Claim7.holds Tryd.pinned (.plain (OpenSpec.upto fnExactMethodRowsSpec)) fnExactMethodRowsUptoCard

/-- THE SECOND FORM's CARD OF 'laws.FnExactReadTune'. -/
def fnExactReadTuneUptoCard : Claim7 := { stood := { row := fnExactReadTuneUptoRow, standIns := [], harness := (true, "449dc02a095706768a6322ec20ddedf41d0754e5df24f9ce7091da24159ad52f"), looks := true }, kinds := [], alts := [], laidByText := true, laidKinds := [.data, .data, .data, .data, .sentinel, .sentinel, .pinned], laidTests := true, laidLooks := .later }
def FnExactReadTuneUptoCardSaid : Prop := Claim7.holds Tryd.pinned (.plain (OpenSpec.upto fnExactReadTuneSpec)) fnExactReadTuneUptoCard
end Rows
end Go.Proofs.YtgdfecnpkjnhnaaDoor
