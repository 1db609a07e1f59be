/-
  DERIVED. GIVEN WITH THE SEED: THE CARDS: each row of YtijhlllajddlpaaDoorRows.lean that lists a variable, with what it lists TIED to the program's text (the seventh form; the later family's looks); each row that meets fmt, with fmt's text TOLD by the authors' own Lean function (tested against real Go, not proved from fmt's source: count such statements apart). THE CARD IS WHAT COUNTS. Prove the row's statement (the work); the ties are given (YtijhlllajddlpaaDoorTie.lean); close each card by the builder's one call (the guide's Derived/Test/ToyasCard.lean, 'card_holds'). Laid BY PROGRAM, IN A SANDBOX (cutbox-door.mjs). By AI agents, Wed Nov 11 2026. No macro, syntax, notation, axiom, sorry.
-/
import Derived.Test.YtijhlllajddlpaaDoorRows
import GoSem.ClaimSeven
namespace Go.Proofs.YtijhlllajddlpaaDoor
namespace Rows

/-- THE TIED CARD OF 'laws.FnExactActionText'. -/
def fnExactActionTextCard : Claim7 := { stood := { row := fnExactActionTextRow, standIns := [], harness := (true, "68e08a9f04149c3cf36c2da78b73ef27079751e597757a5051ffad07608926bc"), looks := true }, kinds := [], alts := [], laidByText := true, laidKinds := [.data, .data, .data], laidTests := true, laidLooks := .later }
def FnExactActionTextCardSaid : Prop := Claim7.holds Tryd.pinned (.plain (OpenSpec.ofChange fnExactActionTextSpec)) fnExactActionTextCard

/-- THE TIED CARD OF 'laws.FnExactReadAction'. -/
def fnExactReadActionCard : Claim7 := { stood := { row := fnExactReadActionRow, standIns := [], harness := (true, "68e08a9f04149c3cf36c2da78b73ef27079751e597757a5051ffad07608926bc"), looks := true }, kinds := [], alts := [], laidByText := true, laidKinds := [.data, .data, .data, .data, .sentinel, .sentinel, .pinned], laidTests := true, laidLooks := .later }
def FnExactReadActionCardSaid : Prop := Claim7.holds Tryd.pinned (.plain (OpenSpec.ofChange fnExactReadActionSpec)) fnExactReadActionCard

/-- THE TIED CARD OF 'laws.FnKeys'. -/
def fnKeysCard : Claim7 := { stood := { row := fnKeysRow, standIns := [], harness := (true, "68e08a9f04149c3cf36c2da78b73ef27079751e597757a5051ffad07608926bc"), looks := true }, kinds := [], alts := [], laidByText := true, laidKinds := [.data, .data, .data, .data, .sentinel, .sentinel, .pinned], laidTests := true, laidLooks := .later }
def FnKeysCardSaid : Prop := Claim7.holds Tryd.pinned (.plain (OpenSpec.ofChange fnKeysSpec)) fnKeysCard

/-- THE SECOND FORM's CARD OF 'laws.FnExactActionText'. -/
def fnExactActionTextUptoCard : Claim7 := { stood := { row := fnExactActionTextUptoRow, standIns := [], harness := (true, "68e08a9f04149c3cf36c2da78b73ef27079751e597757a5051ffad07608926bc"), looks := true }, kinds := [], alts := [], laidByText := true, laidKinds := [.data, .data, .data], laidTests := true, laidLooks := .later }
def FnExactActionTextUptoCardSaid : Prop := Claim7.holds Tryd.pinned (.plain (OpenSpec.upto fnExactActionTextSpec)) fnExactActionTextUptoCard

/-- THE SECOND FORM's CARD OF 'laws.FnExactReadAction'. -/
def fnExactReadActionUptoCard : Claim7 := { stood := { row := fnExactReadActionUptoRow, standIns := [], harness := (true, "68e08a9f04149c3cf36c2da78b73ef27079751e597757a5051ffad07608926bc"), looks := true }, kinds := [], alts := [], laidByText := true, laidKinds := [.data, .data, .data, .data, .sentinel, .sentinel, .pinned], laidTests := true, laidLooks := .later }
def FnExactReadActionUptoCardSaid : Prop := Claim7.holds Tryd.pinned (.plain (OpenSpec.upto fnExactReadActionSpec)) fnExactReadActionUptoCard

/-- THE SECOND FORM's CARD OF 'laws.FnKeys'. -/
def fnKeysUptoCard : Claim7 := { stood := { row := fnKeysUptoRow, standIns := [], harness := (true, "68e08a9f04149c3cf36c2da78b73ef27079751e597757a5051ffad07608926bc"), looks := true }, kinds := [], alts := [], laidByText := true, laidKinds := [.data, .data, .data, .data, .sentinel, .sentinel, .pinned], laidTests := true, laidLooks := .later }
def FnKeysUptoCardSaid : Prop := Claim7.holds Tryd.pinned (.plain (OpenSpec.upto fnKeysSpec)) fnKeysUptoCard
end Rows
end Go.Proofs.YtijhlllajddlpaaDoor
