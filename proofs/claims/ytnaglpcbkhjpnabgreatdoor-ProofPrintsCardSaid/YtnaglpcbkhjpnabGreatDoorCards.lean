/-
  DERIVED. GIVEN WITH THE SEED: THE CARDS: each row of YtnaglpcbkhjpnabGreatDoorRows.lean that lists a variable, with what it lists TIED to the program's text (the seventh form; the later family's looks); each row that meets fmt, with fmt's text TOLD by the authors' own Lean function (tested against real Go, not proved from fmt's source: count such statements apart). THE CARD IS WHAT COUNTS. Prove the row's statement (the work); the ties are given (YtnaglpcbkhjpnabGreatDoorTie.lean); close each card by the builder's one call (the guide's Derived/Test/ToyasCard.lean, 'card_holds'). Laid BY PROGRAM, IN A SANDBOX (cutbox-door.mjs). By AI agents, Wed Nov 11 2026. No macro, syntax, notation, axiom, sorry.
-/
import Derived.Test.YtnaglpcbkhjpnabGreatDoorRows
import GoSem.ClaimSeven
namespace Go.Proofs.YtnaglpcbkhjpnabGreatDoor
namespace Rows

/-- THE TIED CARD OF 'enthymemelaw25.ProofPrints'. -/
def proofPrintsCard : Claim7 := { stood := { row := proofPrintsRow, standIns := [], harness := (true, "ef12d3ff91734631032f14c0655ba616af14fd0ad3ae43d2876c796dfc290727"), looks := true }, kinds := [], alts := [], laidByText := true, laidKinds := [.data, .data, .data, .data, .sentinel, .sentinel, .data, .data, .pinned], laidTests := true, laidLooks := .later }
def ProofPrintsCardSaid : Prop := Claim7.holds Tryz.pinned (.plain (OpenSpec.ofChange proofPrintsSpec)) proofPrintsCard

/-- THE SECOND FORM's CARD OF 'enthymemelaw25.ProofPrints'. -/
def proofPrintsUptoCard : Claim7 := { stood := { row := proofPrintsUptoRow, standIns := [], harness := (true, "ef12d3ff91734631032f14c0655ba616af14fd0ad3ae43d2876c796dfc290727"), looks := true }, kinds := [], alts := [], laidByText := true, laidKinds := [.data, .data, .data, .data, .sentinel, .sentinel, .data, .data, .pinned], laidTests := true, laidLooks := .later }
def ProofPrintsUptoCardSaid : Prop := Claim7.holds Tryz.pinned (.plain (OpenSpec.upto proofPrintsSpec)) proofPrintsUptoCard
end Rows
end Go.Proofs.YtnaglpcbkhjpnabGreatDoor
