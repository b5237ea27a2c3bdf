/-
  DERIVED. GIVEN WITH THE SEED: THE CARDS: each row of YthnoidogkbbkhaaGreatDoorRows.lean that lists a variable, with what it lists TIED to the program's text (the seventh form; the later family's looks); each row that meets fmt, with fmt's text TOLD by the authors' own Lean function (tested against real Go, not proved from fmt's source: count such statements apart). THE CARD IS WHAT COUNTS. Prove the row's statement (the work); the ties are given (YthnoidogkbbkhaaGreatDoorTie.lean); close each card by the builder's one call (the guide's Derived/Test/ToyasCard.lean, 'card_holds'). Laid BY PROGRAM, IN A SANDBOX (cutbox-door.mjs). By AI agents, Wed Nov 11 2026. No macro, syntax, notation, axiom, sorry.
-/
import Derived.Test.YthnoidogkbbkhaaGreatDoorRows
import GoSem.ClaimSeven
namespace Go.Proofs.YthnoidogkbbkhaaGreatDoor
namespace Rows

/-- THE TIED CARD OF 'enthymemelaw25.ProofReads'. -/
def proofReadsCard : Claim7 := { stood := { row := proofReadsRow, standIns := [], harness := (true, "c7fad5e022e277280f1d61b9f53b1ae7feb4d4a91051da9faed6b42d0bcd7ef8"), looks := true }, kinds := [], alts := [], laidByText := true, laidKinds := [.data, .data, .data, .data, .sentinel, .sentinel, .data, .data, .pinned], laidTests := true, laidLooks := .later }
def ProofReadsCardSaid : Prop := Claim7.holds Tryz.pinned (.plain (OpenSpec.ofChange proofReadsSpec)) proofReadsCard

/-- THE SECOND FORM's CARD OF 'enthymemelaw25.ProofReads'. -/
def proofReadsUptoCard : Claim7 := { stood := { row := proofReadsUptoRow, standIns := [], harness := (true, "c7fad5e022e277280f1d61b9f53b1ae7feb4d4a91051da9faed6b42d0bcd7ef8"), looks := true }, kinds := [], alts := [], laidByText := true, laidKinds := [.data, .data, .data, .data, .sentinel, .sentinel, .data, .data, .pinned], laidTests := true, laidLooks := .later }
def ProofReadsUptoCardSaid : Prop := Claim7.holds Tryz.pinned (.plain (OpenSpec.upto proofReadsSpec)) proofReadsUptoCard
end Rows
end Go.Proofs.YthnoidogkbbkhaaGreatDoor
