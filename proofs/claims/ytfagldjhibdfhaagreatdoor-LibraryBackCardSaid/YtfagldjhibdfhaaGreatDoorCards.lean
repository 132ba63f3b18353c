/-
  DERIVED. GIVEN WITH THE SEED: THE CARDS: each row of YtfagldjhibdfhaaGreatDoorRows.lean that lists a variable, with what it lists TIED to the program's text (the seventh form; the later family's looks); each row that meets fmt, with fmt's text TOLD by the authors' own Lean function (tested against real Go, not proved from fmt's source: count such statements apart). THE CARD IS WHAT COUNTS. Prove the row's statement (the work); the ties are given (YtfagldjhibdfhaaGreatDoorTie.lean); close each card by the builder's one call (the guide's Derived/Test/ToyasCard.lean, 'card_holds'). Laid BY PROGRAM, IN A SANDBOX (cutbox-door.mjs). By AI agents, Wed Nov 11 2026. No macro, syntax, notation, axiom, sorry.
-/
import Derived.Test.YtfagldjhibdfhaaGreatDoorRows
import GoSem.ClaimSeven
namespace Go.Proofs.YtfagldjhibdfhaaGreatDoor
namespace Rows

/-- THE TIED CARD OF 'taborlaw15.LibraryBounds'. -/
def libraryBoundsCard : Claim7 := { stood := { row := libraryBoundsRow, standIns := [], harness := (true, "9309908d531d8c1190e57d07a5bcbd3a020c6b3d9996dabe12810dcace433ede"), looks := true }, kinds := [], alts := [], laidByText := true, laidKinds := [.data, .data, .data, .sentinel, .sentinel], laidTests := true, laidLooks := .later }
def LibraryBoundsCardSaid : Prop := Claim7.holds Tryz.pinned (.plain (OpenSpec.ofChange libraryBoundsSpec)) libraryBoundsCard

/-- THE TIED CARD OF 'taborlaw15.LibraryNil'. -/
def libraryNilCard : Claim7 := { stood := { row := libraryNilRow, standIns := [], harness := (true, "9309908d531d8c1190e57d07a5bcbd3a020c6b3d9996dabe12810dcace433ede"), looks := true }, kinds := [], alts := [], laidByText := true, laidKinds := [.data, .data, .data, .sentinel, .sentinel], laidTests := true, laidLooks := .later }
def LibraryNilCardSaid : Prop := Claim7.holds Tryz.pinned (.plain (OpenSpec.ofChange libraryNilSpec)) libraryNilCard

/-- THE TIED CARD OF 'taborlaw15.LibraryBack'. -/
def libraryBackCard : Claim7 := { stood := { row := libraryBackRow, standIns := [], harness := (true, "9309908d531d8c1190e57d07a5bcbd3a020c6b3d9996dabe12810dcace433ede"), looks := true }, kinds := [], alts := [], laidByText := true, laidKinds := [.data, .data, .data, .sentinel, .sentinel], laidTests := true, laidLooks := .later }
def LibraryBackCardSaid : Prop := Claim7.holds Tryz.pinned (.plain (OpenSpec.ofChange libraryBackSpec)) libraryBackCard

/-- THE TIED CARD OF 'taborlaw15.LibraryTexts'. -/
def libraryTextsCard : Claim7 := { stood := { row := libraryTextsRow, standIns := [], harness := (true, "9309908d531d8c1190e57d07a5bcbd3a020c6b3d9996dabe12810dcace433ede"), looks := true }, kinds := [], alts := [], laidByText := true, laidKinds := [.data, .data, .data, .sentinel, .sentinel], laidTests := true, laidLooks := .later }
def LibraryTextsCardSaid : Prop := Claim7.holds Tryz.pinned (.plain (OpenSpec.ofChange libraryTextsSpec)) libraryTextsCard

/-- THE TIED CARD OF 'taborlaw15.LibraryNames'. -/
def libraryNamesCard : Claim7 := { stood := { row := libraryNamesRow, standIns := [], harness := (true, "9309908d531d8c1190e57d07a5bcbd3a020c6b3d9996dabe12810dcace433ede"), looks := true }, kinds := [], alts := [], laidByText := true, laidKinds := [.data, .data, .data, .sentinel, .sentinel], laidTests := true, laidLooks := .later }
def LibraryNamesCardSaid : Prop := Claim7.holds Tryz.pinned (.plain (OpenSpec.ofChange libraryNamesSpec)) libraryNamesCard

/-- THE TIED CARD OF 'taborlaw15.LibrarySubs'. -/
def librarySubsCard : Claim7 := { stood := { row := librarySubsRow, standIns := [], harness := (true, "9309908d531d8c1190e57d07a5bcbd3a020c6b3d9996dabe12810dcace433ede"), looks := true }, kinds := [], alts := [], laidByText := true, laidKinds := [.data, .data, .data, .sentinel, .sentinel], laidTests := true, laidLooks := .later }
def LibrarySubsCardSaid : Prop := Claim7.holds Tryz.pinned (.plain (OpenSpec.ofChange librarySubsSpec)) librarySubsCard

/-- THE TIED CARD OF 'taborlaw15.LibraryReps'. -/
def libraryRepsCard : Claim7 := { stood := { row := libraryRepsRow, standIns := [], harness := (true, "9309908d531d8c1190e57d07a5bcbd3a020c6b3d9996dabe12810dcace433ede"), looks := true }, kinds := [], alts := [], laidByText := true, laidKinds := [.data, .data, .data, .sentinel, .sentinel], laidTests := true, laidLooks := .later }
def LibraryRepsCardSaid : Prop := Claim7.holds Tryz.pinned (.plain (OpenSpec.ofChange libraryRepsSpec)) libraryRepsCard

/-- THE TIED CARD OF 'taborlaw15.LibraryReads'. -/
def libraryReadsCard : Claim7 := { stood := { row := libraryReadsRow, standIns := [], harness := (true, "9309908d531d8c1190e57d07a5bcbd3a020c6b3d9996dabe12810dcace433ede"), looks := true }, kinds := [], alts := [], laidByText := true, laidKinds := [.data, .data, .data, .sentinel, .sentinel], laidTests := true, laidLooks := .later }
def LibraryReadsCardSaid : Prop := Claim7.holds Tryz.pinned (.plain (OpenSpec.ofChange libraryReadsSpec)) libraryReadsCard

/-- THE TIED CARD OF 'taborlaw15.LibraryFinds'. -/
def libraryFindsCard : Claim7 := { stood := { row := libraryFindsRow, standIns := [], harness := (true, "9309908d531d8c1190e57d07a5bcbd3a020c6b3d9996dabe12810dcace433ede"), looks := true }, kinds := [], alts := [], laidByText := true, laidKinds := [.data, .data, .data, .sentinel, .sentinel], laidTests := true, laidLooks := .later }
def LibraryFindsCardSaid : Prop := Claim7.holds Tryz.pinned (.plain (OpenSpec.ofChange libraryFindsSpec)) libraryFindsCard

/-- THE TIED CARD OF 'taborlaw15.LibraryTables'. -/
def libraryTablesCard : Claim7 := { stood := { row := libraryTablesRow, standIns := [], harness := (true, "9309908d531d8c1190e57d07a5bcbd3a020c6b3d9996dabe12810dcace433ede"), looks := true }, kinds := [], alts := [], laidByText := true, laidKinds := [.data, .data, .data, .sentinel, .sentinel], laidTests := true, laidLooks := .later }
def LibraryTablesCardSaid : Prop := Claim7.holds Tryz.pinned (.plain (OpenSpec.ofChange libraryTablesSpec)) libraryTablesCard

/-- THE TIED CARD OF 'taborlaw15.LibraryCalls'. -/
def libraryCallsCard : Claim7 := { stood := { row := libraryCallsRow, standIns := [], harness := (true, "9309908d531d8c1190e57d07a5bcbd3a020c6b3d9996dabe12810dcace433ede"), looks := true }, kinds := [], alts := [], laidByText := true, laidKinds := [.data, .data, .data, .sentinel, .sentinel], laidTests := true, laidLooks := .later }
def LibraryCallsCardSaid : Prop := Claim7.holds Tryz.pinned (.plain (OpenSpec.ofChange libraryCallsSpec)) libraryCallsCard

/-- THE SECOND FORM's CARD OF 'taborlaw15.LibraryBounds'. -/
def libraryBoundsUptoCard : Claim7 := { stood := { row := libraryBoundsUptoRow, standIns := [], harness := (true, "9309908d531d8c1190e57d07a5bcbd3a020c6b3d9996dabe12810dcace433ede"), looks := true }, kinds := [], alts := [], laidByText := true, laidKinds := [.data, .data, .data, .sentinel, .sentinel], laidTests := true, laidLooks := .later }
def LibraryBoundsUptoCardSaid : Prop := Claim7.holds Tryz.pinned (.plain (OpenSpec.upto libraryBoundsSpec)) libraryBoundsUptoCard

/-- THE SECOND FORM's CARD OF 'taborlaw15.LibraryNil'. -/
def libraryNilUptoCard : Claim7 := { stood := { row := libraryNilUptoRow, standIns := [], harness := (true, "9309908d531d8c1190e57d07a5bcbd3a020c6b3d9996dabe12810dcace433ede"), looks := true }, kinds := [], alts := [], laidByText := true, laidKinds := [.data, .data, .data, .sentinel, .sentinel], laidTests := true, laidLooks := .later }
def LibraryNilUptoCardSaid : Prop := Claim7.holds Tryz.pinned (.plain (OpenSpec.upto libraryNilSpec)) libraryNilUptoCard

/-- THE SECOND FORM's CARD OF 'taborlaw15.LibraryBack'. -/
def libraryBackUptoCard : Claim7 := { stood := { row := libraryBackUptoRow, standIns := [], harness := (true, "9309908d531d8c1190e57d07a5bcbd3a020c6b3d9996dabe12810dcace433ede"), looks := true }, kinds := [], alts := [], laidByText := true, laidKinds := [.data, .data, .data, .sentinel, .sentinel], laidTests := true, laidLooks := .later }
def LibraryBackUptoCardSaid : Prop := Claim7.holds Tryz.pinned (.plain (OpenSpec.upto libraryBackSpec)) libraryBackUptoCard

/-- THE SECOND FORM's CARD OF 'taborlaw15.LibraryTexts'. -/
def libraryTextsUptoCard : Claim7 := { stood := { row := libraryTextsUptoRow, standIns := [], harness := (true, "9309908d531d8c1190e57d07a5bcbd3a020c6b3d9996dabe12810dcace433ede"), looks := true }, kinds := [], alts := [], laidByText := true, laidKinds := [.data, .data, .data, .sentinel, .sentinel], laidTests := true, laidLooks := .later }
def LibraryTextsUptoCardSaid : Prop := Claim7.holds Tryz.pinned (.plain (OpenSpec.upto libraryTextsSpec)) libraryTextsUptoCard

/-- THE SECOND FORM's CARD OF 'taborlaw15.LibraryNames'. -/
def libraryNamesUptoCard : Claim7 := { stood := { row := libraryNamesUptoRow, standIns := [], harness := (true, "9309908d531d8c1190e57d07a5bcbd3a020c6b3d9996dabe12810dcace433ede"), looks := true }, kinds := [], alts := [], laidByText := true, laidKinds := [.data, .data, .data, .sentinel, .sentinel], laidTests := true, laidLooks := .later }
def LibraryNamesUptoCardSaid : Prop := Claim7.holds Tryz.pinned (.plain (OpenSpec.upto libraryNamesSpec)) libraryNamesUptoCard

/-- THE SECOND FORM's CARD OF 'taborlaw15.LibrarySubs'. -/
def librarySubsUptoCard : Claim7 := { stood := { row := librarySubsUptoRow, standIns := [], harness := (true, "9309908d531d8c1190e57d07a5bcbd3a020c6b3d9996dabe12810dcace433ede"), looks := true }, kinds := [], alts := [], laidByText := true, laidKinds := [.data, .data, .data, .sentinel, .sentinel], laidTests := true, laidLooks := .later }
def LibrarySubsUptoCardSaid : Prop := Claim7.holds Tryz.pinned (.plain (OpenSpec.upto librarySubsSpec)) librarySubsUptoCard

/-- THE SECOND FORM's CARD OF 'taborlaw15.LibraryReps'. -/
def libraryRepsUptoCard : Claim7 := { stood := { row := libraryRepsUptoRow, standIns := [], harness := (true, "9309908d531d8c1190e57d07a5bcbd3a020c6b3d9996dabe12810dcace433ede"), looks := true }, kinds := [], alts := [], laidByText := true, laidKinds := [.data, .data, .data, .sentinel, .sentinel], laidTests := true, laidLooks := .later }
def LibraryRepsUptoCardSaid : Prop := Claim7.holds Tryz.pinned (.plain (OpenSpec.upto libraryRepsSpec)) libraryRepsUptoCard

/-- THE SECOND FORM's CARD OF 'taborlaw15.LibraryReads'. -/
def libraryReadsUptoCard : Claim7 := { stood := { row := libraryReadsUptoRow, standIns := [], harness := (true, "9309908d531d8c1190e57d07a5bcbd3a020c6b3d9996dabe12810dcace433ede"), looks := true }, kinds := [], alts := [], laidByText := true, laidKinds := [.data, .data, .data, .sentinel, .sentinel], laidTests := true, laidLooks := .later }
def LibraryReadsUptoCardSaid : Prop := Claim7.holds Tryz.pinned (.plain (OpenSpec.upto libraryReadsSpec)) libraryReadsUptoCard

/-- THE SECOND FORM's CARD OF 'taborlaw15.LibraryFinds'. -/
def libraryFindsUptoCard : Claim7 := { stood := { row := libraryFindsUptoRow, standIns := [], harness := (true, "9309908d531d8c1190e57d07a5bcbd3a020c6b3d9996dabe12810dcace433ede"), looks := true }, kinds := [], alts := [], laidByText := true, laidKinds := [.data, .data, .data, .sentinel, .sentinel], laidTests := true, laidLooks := .later }
def LibraryFindsUptoCardSaid : Prop := Claim7.holds Tryz.pinned (.plain (OpenSpec.upto libraryFindsSpec)) libraryFindsUptoCard

/-- THE SECOND FORM's CARD OF 'taborlaw15.LibraryTables'. -/
def libraryTablesUptoCard : Claim7 := { stood := { row := libraryTablesUptoRow, standIns := [], harness := (true, "9309908d531d8c1190e57d07a5bcbd3a020c6b3d9996dabe12810dcace433ede"), looks := true }, kinds := [], alts := [], laidByText := true, laidKinds := [.data, .data, .data, .sentinel, .sentinel], laidTests := true, laidLooks := .later }
def LibraryTablesUptoCardSaid : Prop := Claim7.holds Tryz.pinned (.plain (OpenSpec.upto libraryTablesSpec)) libraryTablesUptoCard

/-- THE SECOND FORM's CARD OF 'taborlaw15.LibraryCalls'. -/
def libraryCallsUptoCard : Claim7 := { stood := { row := libraryCallsUptoRow, standIns := [], harness := (true, "9309908d531d8c1190e57d07a5bcbd3a020c6b3d9996dabe12810dcace433ede"), looks := true }, kinds := [], alts := [], laidByText := true, laidKinds := [.data, .data, .data, .sentinel, .sentinel], laidTests := true, laidLooks := .later }
def LibraryCallsUptoCardSaid : Prop := Claim7.holds Tryz.pinned (.plain (OpenSpec.upto libraryCallsSpec)) libraryCallsUptoCard
end Rows
end Go.Proofs.YtfagldjhibdfhaaGreatDoor
