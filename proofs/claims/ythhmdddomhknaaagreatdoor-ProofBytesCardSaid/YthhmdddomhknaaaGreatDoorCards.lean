/-
  DERIVED. GIVEN WITH THE SEED: THE CARDS: each row of YthhmdddomhknaaaGreatDoorRows.lean that lists a variable, with what it lists TIED to the program's text (the seventh form; the later family's looks); each row that meets fmt, with fmt's text TOLD by the authors' own Lean function (tested against real Go, not proved from fmt's source: count such statements apart). THE CARD IS WHAT COUNTS. Prove the row's statement (the work); the ties are given (YthhmdddomhknaaaGreatDoorTie.lean); close each card by the builder's one call (the guide's Derived/Test/ToyasCard.lean, 'card_holds'). Laid BY PROGRAM, IN A SANDBOX (cutbox-door.mjs). By AI agents, Wed Nov 11 2026. No macro, syntax, notation, axiom, sorry.
-/
import Derived.Test.YthhmdddomhknaaaGreatDoorRows
import GoSem.ClaimSeven
namespace Go.Proofs.YthhmdddomhknaaaGreatDoor
namespace Rows

/-- THE TIED CARD OF 'enthymemelaw25.ProofBytes'. -/
def proofBytesCard : Claim7 := { stood := { row := proofBytesRow, standIns := [], harness := (true, "8096fdfdad4f4575aca9d64a24e531bcf7cbedad667346796d52f8082654534d"), looks := false }, kinds := [], alts := [], laidByText := true, laidKinds := [.data, .data, .data, .data, .data], laidTests := true, laidLooks := .later }
def ProofBytesCardSaid : Prop := Claim7.holds Tryz.pinned (.plain (OpenSpec.ofChange proofBytesSpec)) proofBytesCard

/-- THE SECOND FORM's CARD OF 'enthymemelaw25.ProofBytes'. -/
def proofBytesUptoCard : Claim7 := { stood := { row := proofBytesUptoRow, standIns := [], harness := (true, "8096fdfdad4f4575aca9d64a24e531bcf7cbedad667346796d52f8082654534d"), looks := false }, kinds := [], alts := [], laidByText := true, laidKinds := [.data, .data, .data, .data, .data], laidTests := true, laidLooks := .later }
def ProofBytesUptoCardSaid : Prop := Claim7.holds Tryz.pinned (.plain (OpenSpec.upto proofBytesSpec)) proofBytesUptoCard
end Rows
end Go.Proofs.YthhmdddomhknaaaGreatDoor
