/-
  DERIVED. GIVEN WITH THE SEED: THE CARDS: each row of YteaijhmgfddjiaaDoorRows.lean that lists a variable, with what it lists TIED to the program's text (the seventh form; the later family's looks); each row that meets fmt, with fmt's text TOLD by the authors' own Lean function (tested against real Go, not proved from fmt's source: count such statements apart). THE CARD IS WHAT COUNTS. Prove the row's statement (the work); the ties are given (YteaijhmgfddjiaaDoorTie.lean); close each card by the builder's one call (the guide's Derived/Test/ToyasCard.lean, 'card_holds'). Laid BY PROGRAM, IN A SANDBOX (cutbox-door.mjs). By AI agents, Wed Nov 11 2026. No macro, syntax, notation, axiom, sorry.
-/
import Derived.Test.YteaijhmgfddjiaaDoorRows
import GoSem.ClaimSeven
namespace Go.Proofs.YteaijhmgfddjiaaDoor
namespace Rows

/-- THE TIED CARD OF 'laws.FnChamber'. -/
def fnChamberCard : Claim7 := { stood := { row := fnChamberRow, standIns := [], harness := (true, "3288dd7ac8b3d1cf96c436a55cc729d903d3e14d3da63cb682b867dbb71b2ebf"), looks := true }, kinds := [], alts := [], laidByText := true, laidKinds := [.data, .data, .data, .data, .sentinel, .sentinel, .pinned], laidTests := true, laidLooks := .later }
def FnChamberCardSaid : Prop := Claim7.holds Tryd.pinned (.plain (OpenSpec.ofChange fnChamberSpec)) fnChamberCard

/-- THE SECOND FORM's CARD OF 'laws.FnChamber'. -/
def fnChamberUptoCard : Claim7 := { stood := { row := fnChamberUptoRow, standIns := [], harness := (true, "3288dd7ac8b3d1cf96c436a55cc729d903d3e14d3da63cb682b867dbb71b2ebf"), looks := true }, kinds := [], alts := [], laidByText := true, laidKinds := [.data, .data, .data, .data, .sentinel, .sentinel, .pinned], laidTests := true, laidLooks := .later }
def FnChamberUptoCardSaid : Prop := Claim7.holds Tryd.pinned (.plain (OpenSpec.upto fnChamberSpec)) fnChamberUptoCard
end Rows
end Go.Proofs.YteaijhmgfddjiaaDoor
