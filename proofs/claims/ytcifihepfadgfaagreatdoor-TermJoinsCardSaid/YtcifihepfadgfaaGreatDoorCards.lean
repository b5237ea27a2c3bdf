/-
  DERIVED. GIVEN WITH THE SEED: THE CARDS: each row of YtcifihepfadgfaaGreatDoorRows.lean that lists a variable, with what it lists TIED to the program's text (the seventh form; the later family's looks); each row that meets fmt, with fmt's text TOLD by the authors' own Lean function (tested against real Go, not proved from fmt's source: count such statements apart). THE CARD IS WHAT COUNTS. Prove the row's statement (the work); the ties are given (YtcifihepfadgfaaGreatDoorTie.lean); close each card by the builder's one call (the guide's Derived/Test/ToyasCard.lean, 'card_holds'). Laid BY PROGRAM, IN A SANDBOX (cutbox-door.mjs). By AI agents, Wed Nov 11 2026. No macro, syntax, notation, axiom, sorry.
-/
import Derived.Test.YtcifihepfadgfaaGreatDoorRows
import GoSem.ClaimSeven
namespace Go.Proofs.YtcifihepfadgfaaGreatDoor
namespace Rows

/-- THE TIED CARD OF 'enthymemelaw07.TermSorts'. -/
def termSortsCard : Claim7 := { stood := { row := termSortsRow, standIns := [], harness := (true, "d6a63e86c491910caf03ba4c3f7029bd83727d2e7474ce125df95a215ea48906"), looks := false }, kinds := [], alts := [], laidByText := true, laidKinds := [.data], laidTests := true, laidLooks := .later }
def TermSortsCardSaid : Prop := Claim7.holds Tryz.pinned (.plain (OpenSpec.ofChange termSortsSpec)) termSortsCard

/-- THE TIED CARD OF 'enthymemelaw07.TermNeeds'. -/
def termNeedsCard : Claim7 := { stood := { row := termNeedsRow, standIns := [], harness := (true, "d6a63e86c491910caf03ba4c3f7029bd83727d2e7474ce125df95a215ea48906"), looks := false }, kinds := [], alts := [], laidByText := true, laidKinds := [.data], laidTests := true, laidLooks := .later }
def TermNeedsCardSaid : Prop := Claim7.holds Tryz.pinned (.plain (OpenSpec.ofChange termNeedsSpec)) termNeedsCard

/-- THE TIED CARD OF 'enthymemelaw07.TermShared'. -/
def termSharedCard : Claim7 := { stood := { row := termSharedRow, standIns := [], harness := (true, "d6a63e86c491910caf03ba4c3f7029bd83727d2e7474ce125df95a215ea48906"), looks := false }, kinds := [], alts := [], laidByText := true, laidKinds := [.data], laidTests := true, laidLooks := .later }
def TermSharedCardSaid : Prop := Claim7.holds Tryz.pinned (.plain (OpenSpec.ofChange termSharedSpec)) termSharedCard

/-- THE TIED CARD OF 'enthymemelaw07.TermJoins'. -/
def termJoinsCard : Claim7 := { stood := { row := termJoinsRow, standIns := [], harness := (true, "d6a63e86c491910caf03ba4c3f7029bd83727d2e7474ce125df95a215ea48906"), looks := false }, kinds := [], alts := [], laidByText := true, laidKinds := [.data], laidTests := true, laidLooks := .later }
def TermJoinsCardSaid : Prop := Claim7.holds Tryz.pinned (.plain (OpenSpec.ofChange termJoinsSpec)) termJoinsCard

/-- THE TIED CARD OF 'enthymemelaw07.TermValid'. -/
def termValidCard : Claim7 := { stood := { row := termValidRow, standIns := [], harness := (true, "d6a63e86c491910caf03ba4c3f7029bd83727d2e7474ce125df95a215ea48906"), looks := false }, kinds := [], alts := [], laidByText := true, laidKinds := [.data], laidTests := true, laidLooks := .later }
def TermValidCardSaid : Prop := Claim7.holds Tryz.pinned (.plain (OpenSpec.ofChange termValidSpec)) termValidCard

/-- THE TIED CARD OF 'enthymemelaw07.TermBytes'. -/
def termBytesCard : Claim7 := { stood := { row := termBytesRow, standIns := [], harness := (true, "d6a63e86c491910caf03ba4c3f7029bd83727d2e7474ce125df95a215ea48906"), looks := false }, kinds := [], alts := [], laidByText := true, laidKinds := [.data], laidTests := true, laidLooks := .later }
def TermBytesCardSaid : Prop := Claim7.holds Tryz.pinned (.plain (OpenSpec.ofChange termBytesSpec)) termBytesCard

/-- THE SECOND FORM's CARD OF 'enthymemelaw07.TermSorts'. -/
def termSortsUptoCard : Claim7 := { stood := { row := termSortsUptoRow, standIns := [], harness := (true, "d6a63e86c491910caf03ba4c3f7029bd83727d2e7474ce125df95a215ea48906"), looks := false }, kinds := [], alts := [], laidByText := true, laidKinds := [.data], laidTests := true, laidLooks := .later }
def TermSortsUptoCardSaid : Prop := Claim7.holds Tryz.pinned (.plain (OpenSpec.upto termSortsSpec)) termSortsUptoCard

/-- THE SECOND FORM's CARD OF 'enthymemelaw07.TermNeeds'. -/
def termNeedsUptoCard : Claim7 := { stood := { row := termNeedsUptoRow, standIns := [], harness := (true, "d6a63e86c491910caf03ba4c3f7029bd83727d2e7474ce125df95a215ea48906"), looks := false }, kinds := [], alts := [], laidByText := true, laidKinds := [.data], laidTests := true, laidLooks := .later }
def TermNeedsUptoCardSaid : Prop := Claim7.holds Tryz.pinned (.plain (OpenSpec.upto termNeedsSpec)) termNeedsUptoCard

/-- THE SECOND FORM's CARD OF 'enthymemelaw07.TermShared'. -/
def termSharedUptoCard : Claim7 := { stood := { row := termSharedUptoRow, standIns := [], harness := (true, "d6a63e86c491910caf03ba4c3f7029bd83727d2e7474ce125df95a215ea48906"), looks := false }, kinds := [], alts := [], laidByText := true, laidKinds := [.data], laidTests := true, laidLooks := .later }
def TermSharedUptoCardSaid : Prop := Claim7.holds Tryz.pinned (.plain (OpenSpec.upto termSharedSpec)) termSharedUptoCard

/-- THE SECOND FORM's CARD OF 'enthymemelaw07.TermJoins'. -/
def termJoinsUptoCard : Claim7 := { stood := { row := termJoinsUptoRow, standIns := [], harness := (true, "d6a63e86c491910caf03ba4c3f7029bd83727d2e7474ce125df95a215ea48906"), looks := false }, kinds := [], alts := [], laidByText := true, laidKinds := [.data], laidTests := true, laidLooks := .later }
def TermJoinsUptoCardSaid : Prop := Claim7.holds Tryz.pinned (.plain (OpenSpec.upto termJoinsSpec)) termJoinsUptoCard

/-- THE SECOND FORM's CARD OF 'enthymemelaw07.TermValid'. -/
def termValidUptoCard : Claim7 := { stood := { row := termValidUptoRow, standIns := [], harness := (true, "d6a63e86c491910caf03ba4c3f7029bd83727d2e7474ce125df95a215ea48906"), looks := false }, kinds := [], alts := [], laidByText := true, laidKinds := [.data], laidTests := true, laidLooks := .later }
def TermValidUptoCardSaid : Prop := Claim7.holds Tryz.pinned (.plain (OpenSpec.upto termValidSpec)) termValidUptoCard

/-- THE SECOND FORM's CARD OF 'enthymemelaw07.TermBytes'. -/
def termBytesUptoCard : Claim7 := { stood := { row := termBytesUptoRow, standIns := [], harness := (true, "d6a63e86c491910caf03ba4c3f7029bd83727d2e7474ce125df95a215ea48906"), looks := false }, kinds := [], alts := [], laidByText := true, laidKinds := [.data], laidTests := true, laidLooks := .later }
def TermBytesUptoCardSaid : Prop := Claim7.holds Tryz.pinned (.plain (OpenSpec.upto termBytesSpec)) termBytesUptoCard
end Rows
end Go.Proofs.YtcifihepfadgfaaGreatDoor
