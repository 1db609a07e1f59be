/-
  DERIVED. GIVEN WITH THE SEED: THE CARDS: each row of YtgdfecnpkjnhnaaGreatDoorRows.lean that lists a variable, with what it lists TIED to the program's text (the seventh form; the later family's looks); each row that meets fmt, with fmt's text TOLD by the authors' own Lean function (tested against real Go, not proved from fmt's source: count such statements apart). THE CARD IS WHAT COUNTS. Prove the row's statement (the work); the ties are given (YtgdfecnpkjnhnaaGreatDoorTie.lean); close each card by the builder's one call (the guide's Derived/Test/ToyasCard.lean, 'card_holds'). Laid BY PROGRAM, IN A SANDBOX (cutbox-door.mjs). By AI agents, Wed Nov 11 2026. No macro, syntax, notation, axiom, sorry.
-/
import Derived.Test.YtgdfecnpkjnhnaaGreatDoorRows
import GoSem.ClaimSeven
namespace Go.Proofs.YtgdfecnpkjnhnaaGreatDoor
namespace Rows

/-- THE TIED CARD OF 'laws.FnTunes'. -/
def fnTunesCard : Claim7 := { stood := { row := fnTunesRow, standIns := [], harness := (true, "898c0493f3a63509ebb7ef6224684cef1cc7b67d3a833029ef980fdd827444f7"), looks := true }, kinds := [], alts := [], laidByText := true, laidKinds := [.data, .data, .data, .data, .sentinel, .sentinel, .pinned], laidTests := true, laidLooks := .later }
def FnTunesCardSaid : Prop := Claim7.holds Tryz.pinned (.plain (OpenSpec.ofChange fnTunesSpec)) fnTunesCard

/-- THE SECOND FORM's CARD OF 'laws.FnTunes'. -/
def fnTunesUptoCard : Claim7 := { stood := { row := fnTunesUptoRow, standIns := [], harness := (true, "898c0493f3a63509ebb7ef6224684cef1cc7b67d3a833029ef980fdd827444f7"), looks := true }, kinds := [], alts := [], laidByText := true, laidKinds := [.data, .data, .data, .data, .sentinel, .sentinel, .pinned], laidTests := true, laidLooks := .later }
def FnTunesUptoCardSaid : Prop := Claim7.holds Tryz.pinned (.plain (OpenSpec.upto fnTunesSpec)) fnTunesUptoCard
end Rows
end Go.Proofs.YtgdfecnpkjnhnaaGreatDoor
