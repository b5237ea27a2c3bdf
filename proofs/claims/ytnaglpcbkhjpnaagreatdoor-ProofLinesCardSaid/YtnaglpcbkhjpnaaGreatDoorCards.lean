/-
  DERIVED. GIVEN WITH THE SEED: THE CARDS: each row of YtnaglpcbkhjpnaaGreatDoorRows.lean that lists a variable, with what it lists TIED to the program's text (the seventh form; the later family's looks); each row that meets fmt, with fmt's text TOLD by the authors' own Lean function (tested against real Go, not proved from fmt's source: count such statements apart). THE CARD IS WHAT COUNTS. Prove the row's statement (the work); the ties are given (YtnaglpcbkhjpnaaGreatDoorTie.lean); close each card by the builder's one call (the guide's Derived/Test/ToyasCard.lean, 'card_holds'). Laid BY PROGRAM, IN A SANDBOX (cutbox-door.mjs). By AI agents, Wed Nov 11 2026. No macro, syntax, notation, axiom, sorry.
-/
import Derived.Test.YtnaglpcbkhjpnaaGreatDoorRows
import GoSem.ClaimSeven
namespace Go.Proofs.YtnaglpcbkhjpnaaGreatDoor
namespace Rows

/-- THE TIED CARD OF 'enthymemelaw25.ProofLines'. -/
def proofLinesCard : Claim7 := { stood := { row := proofLinesRow, standIns := [], harness := (true, "43239d24090f601c9c180ac489a1008af38a02ddc8d1b06ec0c616110fefed59"), looks := true }, kinds := [], alts := [], laidByText := true, laidKinds := [.data, .data, .data, .data, .sentinel, .sentinel, .data, .data, .pinned], laidTests := true, laidLooks := .later }
def ProofLinesCardSaid : Prop := Claim7.holds Tryz.pinned (.plain (OpenSpec.ofChange proofLinesSpec)) proofLinesCard

/-- THE SECOND FORM's CARD OF 'enthymemelaw25.ProofLines'. -/
def proofLinesUptoCard : Claim7 := { stood := { row := proofLinesUptoRow, standIns := [], harness := (true, "43239d24090f601c9c180ac489a1008af38a02ddc8d1b06ec0c616110fefed59"), looks := true }, kinds := [], alts := [], laidByText := true, laidKinds := [.data, .data, .data, .data, .sentinel, .sentinel, .data, .data, .pinned], laidTests := true, laidLooks := .later }
def ProofLinesUptoCardSaid : Prop := Claim7.holds Tryz.pinned (.plain (OpenSpec.upto proofLinesSpec)) proofLinesUptoCard
end Rows
end Go.Proofs.YtnaglpcbkhjpnaaGreatDoor
