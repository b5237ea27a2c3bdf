/-
  DERIVED. GIVEN WITH THE SEED: THE CARDS: each row of YtibaobaobnpdaaaGreatDoorRows.lean that lists a variable, with what it lists TIED to the program's text (the seventh form; the later family's looks); each row that meets fmt, with fmt's text TOLD by the authors' own Lean function (tested against real Go, not proved from fmt's source: count such statements apart). THE CARD IS WHAT COUNTS. Prove the row's statement (the work); the ties are given (YtibaobaobnpdaaaGreatDoorTie.lean); close each card by the builder's one call (the guide's Derived/Test/ToyasCard.lean, 'card_holds'). Laid BY PROGRAM, IN A SANDBOX (cutbox-door.mjs). By AI agents, Wed Nov 11 2026. No macro, syntax, notation, axiom, sorry.
-/
import Derived.Test.YtibaobaobnpdaaaGreatDoorRows
import GoSem.ClaimSeven
namespace Go.Proofs.YtibaobaobnpdaaaGreatDoor
namespace Rows

/-- THE TIED CARD OF 'enthymemelaw11.PrintLimits'. -/
def printLimitsCard : Claim7 := { stood := { row := printLimitsRow, standIns := [], harness := (true, "19bf2cb415ea1bdff434ce386ff8c93de5f34122482554d73476518ab3615b5d"), looks := true }, kinds := [], alts := [], laidByText := true, laidKinds := [.data, .data, .data, .sentinel, .sentinel, .data], laidTests := true, laidLooks := .later }
def PrintLimitsCardSaid : Prop := Claim7.holds Tryz.pinned (.plain (OpenSpec.ofChange printLimitsSpec)) printLimitsCard

/-- THE SECOND FORM's CARD OF 'enthymemelaw11.PrintLimits'. -/
def printLimitsUptoCard : Claim7 := { stood := { row := printLimitsUptoRow, standIns := [], harness := (true, "19bf2cb415ea1bdff434ce386ff8c93de5f34122482554d73476518ab3615b5d"), looks := true }, kinds := [], alts := [], laidByText := true, laidKinds := [.data, .data, .data, .sentinel, .sentinel, .data], laidTests := true, laidLooks := .later }
def PrintLimitsUptoCardSaid : Prop := Claim7.holds Tryz.pinned (.plain (OpenSpec.upto printLimitsSpec)) printLimitsUptoCard
end Rows
end Go.Proofs.YtibaobaobnpdaaaGreatDoor
