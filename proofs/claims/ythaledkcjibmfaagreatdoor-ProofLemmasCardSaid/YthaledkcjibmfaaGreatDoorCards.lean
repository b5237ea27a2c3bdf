/-
  DERIVED. GIVEN WITH THE SEED: THE CARDS: each row of YthaledkcjibmfaaGreatDoorRows.lean that lists a variable, with what it lists TIED to the program's text (the seventh form; the later family's looks); each row that meets fmt, with fmt's text TOLD by the authors' own Lean function (tested against real Go, not proved from fmt's source: count such statements apart). THE CARD IS WHAT COUNTS. Prove the row's statement (the work); the ties are given (YthaledkcjibmfaaGreatDoorTie.lean); close each card by the builder's one call (the guide's Derived/Test/ToyasCard.lean, 'card_holds'). Laid BY PROGRAM, IN A SANDBOX (cutbox-door.mjs). By AI agents, Wed Nov 11 2026. No macro, syntax, notation, axiom, sorry.
-/
import Derived.Test.YthaledkcjibmfaaGreatDoorRows
import GoSem.ClaimSeven
namespace Go.Proofs.YthaledkcjibmfaaGreatDoor
namespace Rows

/-- THE TIED CARD OF 'enthymemelaw25.ProofLemmas'. -/
def proofLemmasCard : Claim7 := { stood := { row := proofLemmasRow, standIns := [], harness := (true, "0eccb4448434e5a6b2b413c5c0c7621cea51cd6ff77429ea5ff681d9a2dc57c9"), looks := false }, kinds := [], alts := [], laidByText := true, laidKinds := [.data, .data, .data, .data, .data], laidTests := true, laidLooks := .later }
def ProofLemmasCardSaid : Prop := Claim7.holds Tryz.pinned (.plain (OpenSpec.ofChange proofLemmasSpec)) proofLemmasCard

/-- THE SECOND FORM's CARD OF 'enthymemelaw25.ProofLemmas'. -/
def proofLemmasUptoCard : Claim7 := { stood := { row := proofLemmasUptoRow, standIns := [], harness := (true, "0eccb4448434e5a6b2b413c5c0c7621cea51cd6ff77429ea5ff681d9a2dc57c9"), looks := false }, kinds := [], alts := [], laidByText := true, laidKinds := [.data, .data, .data, .data, .data], laidTests := true, laidLooks := .later }
def ProofLemmasUptoCardSaid : Prop := Claim7.holds Tryz.pinned (.plain (OpenSpec.upto proofLemmasSpec)) proofLemmasUptoCard
end Rows
end Go.Proofs.YthaledkcjibmfaaGreatDoor
