/-
  DERIVED. GIVEN WITH THE SEED: THE CARDS: each row of YtkbmpalepmakmaaGreatDoorRows.lean that lists a variable, with what it lists TIED to the program's text (the seventh form; the later family's looks); each row that meets fmt, with fmt's text TOLD by the authors' own Lean function (tested against real Go, not proved from fmt's source: count such statements apart). THE CARD IS WHAT COUNTS. Prove the row's statement (the work); the ties are given (YtkbmpalepmakmaaGreatDoorTie.lean); close each card by the builder's one call (the guide's Derived/Test/ToyasCard.lean, 'card_holds'). Laid BY PROGRAM, IN A SANDBOX (cutbox-door.mjs). By AI agents, Wed Nov 11 2026. No macro, syntax, notation, axiom, sorry.
-/
import Derived.Test.YtkbmpalepmakmaaGreatDoorRows
import GoSem.ClaimSeven
namespace Go.Proofs.YtkbmpalepmakmaaGreatDoor
namespace Rows

/-- THE TIED CARD OF 'enthymemelaw10.ParseMacros'. -/
def parseMacrosCard : Claim7 := { stood := { row := parseMacrosRow, standIns := [], harness := (true, "40aa4473e63aee9e3f81da59577eb6b57bbf16c53ca6549d7b6ac1329dc495c7"), looks := true }, kinds := [], alts := [], laidByText := true, laidKinds := [.data, .data, .data, .sentinel, .sentinel, .data], laidTests := true, laidLooks := .later }
def ParseMacrosCardSaid : Prop := Claim7.holds Tryz.pinned (.plain (OpenSpec.ofChange parseMacrosSpec)) parseMacrosCard

/-- THE SECOND FORM's CARD OF 'enthymemelaw10.ParseMacros'. -/
def parseMacrosUptoCard : Claim7 := { stood := { row := parseMacrosUptoRow, standIns := [], harness := (true, "40aa4473e63aee9e3f81da59577eb6b57bbf16c53ca6549d7b6ac1329dc495c7"), looks := true }, kinds := [], alts := [], laidByText := true, laidKinds := [.data, .data, .data, .sentinel, .sentinel, .data], laidTests := true, laidLooks := .later }
def ParseMacrosUptoCardSaid : Prop := Claim7.holds Tryz.pinned (.plain (OpenSpec.upto parseMacrosSpec)) parseMacrosUptoCard
end Rows
end Go.Proofs.YtkbmpalepmakmaaGreatDoor
