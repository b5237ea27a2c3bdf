/-
  DERIVED. GIVEN WITH THE SEED: THE CARDS: each row of YthkcmmldhceegaaGreatDoorRows.lean that lists a variable, with what it lists TIED to the program's text (the seventh form; the later family's looks); each row that meets fmt, with fmt's text TOLD by the authors' own Lean function (tested against real Go, not proved from fmt's source: count such statements apart). THE CARD IS WHAT COUNTS. Prove the row's statement (the work); the ties are given (YthkcmmldhceegaaGreatDoorTie.lean); close each card by the builder's one call (the guide's Derived/Test/ToyasCard.lean, 'card_holds'). Laid BY PROGRAM, IN A SANDBOX (cutbox-door.mjs). By AI agents, Wed Nov 11 2026. No macro, syntax, notation, axiom, sorry.
-/
import Derived.Test.YthkcmmldhceegaaGreatDoorRows
import GoSem.ClaimSeven
namespace Go.Proofs.YthkcmmldhceegaaGreatDoor
namespace Rows

/-- THE TIED CARD OF 'enthymemelaw25.ProofValid'. -/
def proofValidCard : Claim7 := { stood := { row := proofValidRow, standIns := [], harness := (true, "4ada8eabb7789d1b1ee8799cff45939abbae30b4ee7a31e3896108fb79a3f05e"), looks := false }, kinds := [], alts := [], laidByText := true, laidKinds := [.data, .data, .data, .data, .data], laidTests := true, laidLooks := .later }
def ProofValidCardSaid : Prop := Claim7.holds Tryz.pinned (.plain (OpenSpec.ofChange proofValidSpec)) proofValidCard

/-- THE SECOND FORM's CARD OF 'enthymemelaw25.ProofValid'. -/
def proofValidUptoCard : Claim7 := { stood := { row := proofValidUptoRow, standIns := [], harness := (true, "4ada8eabb7789d1b1ee8799cff45939abbae30b4ee7a31e3896108fb79a3f05e"), looks := false }, kinds := [], alts := [], laidByText := true, laidKinds := [.data, .data, .data, .data, .data], laidTests := true, laidLooks := .later }
def ProofValidUptoCardSaid : Prop := Claim7.holds Tryz.pinned (.plain (OpenSpec.upto proofValidSpec)) proofValidUptoCard
end Rows
end Go.Proofs.YthkcmmldhceegaaGreatDoor
