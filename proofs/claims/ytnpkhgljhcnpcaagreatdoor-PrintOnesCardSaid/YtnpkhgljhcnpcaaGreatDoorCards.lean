/-
  DERIVED. GIVEN WITH THE SEED: THE CARDS: each row of YtnpkhgljhcnpcaaGreatDoorRows.lean that lists a variable, with what it lists TIED to the program's text (the seventh form; the later family's looks); each row that meets fmt, with fmt's text TOLD by the authors' own Lean function (tested against real Go, not proved from fmt's source: count such statements apart). THE CARD IS WHAT COUNTS. Prove the row's statement (the work); the ties are given (YtnpkhgljhcnpcaaGreatDoorTie.lean); close each card by the builder's one call (the guide's Derived/Test/ToyasCard.lean, 'card_holds'). Laid BY PROGRAM, IN A SANDBOX (cutbox-door.mjs). By AI agents, Wed Nov 11 2026. No macro, syntax, notation, axiom, sorry.
-/
import Derived.Test.YtnpkhgljhcnpcaaGreatDoorRows
import GoSem.ClaimSeven
namespace Go.Proofs.YtnpkhgljhcnpcaaGreatDoor
namespace Rows

/-- THE TIED CARD OF 'enthymemelaw11.PrintSorts'. -/
def printSortsCard : Claim7 := { stood := { row := printSortsRow, standIns := [], harness := (true, "1d3fbed5efd3b53bd56a89e7d02b36a35021f652d578ef7dd1809411f8c3e174"), looks := false }, kinds := [], alts := [], laidByText := true, laidKinds := [.data, .data, .data, .data], laidTests := true, laidLooks := .later }
def PrintSortsCardSaid : Prop := Claim7.holds Tryz.pinned (.plain (OpenSpec.ofChange printSortsSpec)) printSortsCard

/-- THE TIED CARD OF 'enthymemelaw11.PrintOnes'. -/
def printOnesCard : Claim7 := { stood := { row := printOnesRow, standIns := [], harness := (true, "1d3fbed5efd3b53bd56a89e7d02b36a35021f652d578ef7dd1809411f8c3e174"), looks := false }, kinds := [], alts := [], laidByText := true, laidKinds := [.data, .data, .data, .data], laidTests := true, laidLooks := .later }
def PrintOnesCardSaid : Prop := Claim7.holds Tryz.pinned (.plain (OpenSpec.ofChange printOnesSpec)) printOnesCard

/-- THE SECOND FORM's CARD OF 'enthymemelaw11.PrintSorts'. -/
def printSortsUptoCard : Claim7 := { stood := { row := printSortsUptoRow, standIns := [], harness := (true, "1d3fbed5efd3b53bd56a89e7d02b36a35021f652d578ef7dd1809411f8c3e174"), looks := false }, kinds := [], alts := [], laidByText := true, laidKinds := [.data, .data, .data, .data], laidTests := true, laidLooks := .later }
def PrintSortsUptoCardSaid : Prop := Claim7.holds Tryz.pinned (.plain (OpenSpec.upto printSortsSpec)) printSortsUptoCard

/-- THE SECOND FORM's CARD OF 'enthymemelaw11.PrintOnes'. -/
def printOnesUptoCard : Claim7 := { stood := { row := printOnesUptoRow, standIns := [], harness := (true, "1d3fbed5efd3b53bd56a89e7d02b36a35021f652d578ef7dd1809411f8c3e174"), looks := false }, kinds := [], alts := [], laidByText := true, laidKinds := [.data, .data, .data, .data], laidTests := true, laidLooks := .later }
def PrintOnesUptoCardSaid : Prop := Claim7.holds Tryz.pinned (.plain (OpenSpec.upto printOnesSpec)) printOnesUptoCard
end Rows
end Go.Proofs.YtnpkhgljhcnpcaaGreatDoor
