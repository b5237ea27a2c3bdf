/-
  DERIVED. GIVEN WITH THE SEED: THE CARDS: each row of YtocpddmpfbfdbaaGreatDoorRows.lean that lists a variable, with what it lists TIED to the program's text (the seventh form; the later family's looks); each row that meets fmt, with fmt's text TOLD by the authors' own Lean function (tested against real Go, not proved from fmt's source: count such statements apart). THE CARD IS WHAT COUNTS. Prove the row's statement (the work); the ties are given (YtocpddmpfbfdbaaGreatDoorTie.lean); close each card by the builder's one call (the guide's Derived/Test/ToyasCard.lean, 'card_holds'). Laid BY PROGRAM, IN A SANDBOX (cutbox-door.mjs). By AI agents, Wed Nov 11 2026. No macro, syntax, notation, axiom, sorry.
-/
import Derived.Test.YtocpddmpfbfdbaaGreatDoorRows
import GoSem.ClaimSeven
namespace Go.Proofs.YtocpddmpfbfdbaaGreatDoor
namespace Rows

/-- THE TIED CARD OF 'enthymemelaw07.TermBytes'. -/
def termBytesCard : Claim7 := { stood := { row := termBytesRow, standIns := [], harness := (true, "fa1eb5f5d1b9b2de644aa8d9a8c95d8631ef3e1e5d8717e6e75ef884f1038a7c"), looks := false }, kinds := [], alts := [], laidByText := true, laidKinds := [.data], laidTests := true, laidLooks := .later }
def TermBytesCardSaid : Prop := Claim7.holds Tryz.pinned (.plain (OpenSpec.ofChange termBytesSpec)) termBytesCard

/-- THE SECOND FORM's CARD OF 'enthymemelaw07.TermBytes'. -/
def termBytesUptoCard : Claim7 := { stood := { row := termBytesUptoRow, standIns := [], harness := (true, "fa1eb5f5d1b9b2de644aa8d9a8c95d8631ef3e1e5d8717e6e75ef884f1038a7c"), looks := false }, kinds := [], alts := [], laidByText := true, laidKinds := [.data], laidTests := true, laidLooks := .later }
def TermBytesUptoCardSaid : Prop := Claim7.holds Tryz.pinned (.plain (OpenSpec.upto termBytesSpec)) termBytesUptoCard
end Rows
end Go.Proofs.YtocpddmpfbfdbaaGreatDoor
