/-
  DERIVED. GIVEN WITH THE SEED: THE CARDS: each row of YtkbcnacjaakleaaGreatDoorRows.lean that lists a variable, with what it lists TIED to the program's text (the seventh form; the later family's looks); each row that meets fmt, with fmt's text TOLD by the authors' own Lean function (tested against real Go, not proved from fmt's source: count such statements apart). THE CARD IS WHAT COUNTS. Prove the row's statement (the work); the ties are given (YtkbcnacjaakleaaGreatDoorTie.lean); close each card by the builder's one call (the guide's Derived/Test/ToyasCard.lean, 'card_holds'). Laid BY PROGRAM, IN A SANDBOX (cutbox-door.mjs). By AI agents, Wed Nov 11 2026. No macro, syntax, notation, axiom, sorry.
-/
import Derived.Test.YtkbcnacjaakleaaGreatDoorRows
import GoSem.ClaimSeven
namespace Go.Proofs.YtkbcnacjaakleaaGreatDoor
namespace Rows

/-- THE TIED CARD OF 'taborlaw13.ScopesBuiltin'. -/
def scopesBuiltinCard : Claim7 := { stood := { row := scopesBuiltinRow, standIns := [], harness := (true, "b1cf2d2e3f470322ceedad00e35c818a4291b4d20c48b98c1f8333993962dcf6"), looks := true }, kinds := [], alts := [], laidByText := true, laidKinds := [.data, .listed, .data, .pinned], laidTests := true, laidLooks := .later }
def ScopesBuiltinCardSaid : Prop := Claim7.holds Tryz.pinned (.plain (OpenSpec.ofChange scopesBuiltinSpec)) scopesBuiltinCard

/-- THE TIED CARD OF 'taborlaw12.SyntaxAll'. -/
def syntaxAllCard : Claim7 := { stood := { row := syntaxAllRow, standIns := [], harness := (true, "b1cf2d2e3f470322ceedad00e35c818a4291b4d20c48b98c1f8333993962dcf6"), looks := true }, kinds := [], alts := [], laidByText := true, laidKinds := [.data, .data, .data, .data, .sentinel, .sentinel, .listed, .data, .pinned], laidTests := true, laidLooks := .later }
def SyntaxAllCardSaid : Prop := Claim7.holds Tryz.pinned (.plain (OpenSpec.ofChange syntaxAllSpec)) syntaxAllCard

/-- THE TIED CARD OF 'taborlaw12.SyntaxCheck'. -/
def syntaxCheckCard : Claim7 := { stood := { row := syntaxCheckRow, standIns := [], harness := (true, "b1cf2d2e3f470322ceedad00e35c818a4291b4d20c48b98c1f8333993962dcf6"), looks := true }, kinds := [], alts := [], laidByText := true, laidKinds := [.data, .data, .data, .data, .sentinel, .sentinel, .listed, .data, .pinned], laidTests := true, laidLooks := .later }
def SyntaxCheckCardSaid : Prop := Claim7.holds Tryz.pinned (.plain (OpenSpec.ofChange syntaxCheckSpec)) syntaxCheckCard

/-- THE TIED CARD OF 'taborlaw12.SyntaxPrint'. -/
def syntaxPrintCard : Claim7 := { stood := { row := syntaxPrintRow, standIns := [], harness := (true, "b1cf2d2e3f470322ceedad00e35c818a4291b4d20c48b98c1f8333993962dcf6"), looks := true }, kinds := [], alts := [], laidByText := true, laidKinds := [.data, .data, .data, .data, .sentinel, .sentinel, .listed, .data, .pinned], laidTests := true, laidLooks := .later }
def SyntaxPrintCardSaid : Prop := Claim7.holds Tryz.pinned (.plain (OpenSpec.ofChange syntaxPrintSpec)) syntaxPrintCard

/-- THE TIED CARD OF 'taborlaw12.SyntaxBack'. -/
def syntaxBackCard : Claim7 := { stood := { row := syntaxBackRow, standIns := [], harness := (true, "b1cf2d2e3f470322ceedad00e35c818a4291b4d20c48b98c1f8333993962dcf6"), looks := true }, kinds := [], alts := [], laidByText := true, laidKinds := [.data, .data, .data, .data, .sentinel, .sentinel, .listed, .data, .pinned], laidTests := true, laidLooks := .later }
def SyntaxBackCardSaid : Prop := Claim7.holds Tryz.pinned (.plain (OpenSpec.ofChange syntaxBackSpec)) syntaxBackCard

/-- THE TIED CARD OF 'taborlaw19.CompileTree'. -/
def compileTreeCard : Claim7 := { stood := { row := compileTreeRow, standIns := [], harness := (true, "b1cf2d2e3f470322ceedad00e35c818a4291b4d20c48b98c1f8333993962dcf6"), looks := true }, kinds := [], alts := [], laidByText := true, laidKinds := [.data, .data, .data, .data, .sentinel, .sentinel, .listed, .data, .pinned], laidTests := true, laidLooks := .later }
def CompileTreeCardSaid : Prop := Claim7.holds Tryz.pinned (.plain (OpenSpec.ofChange compileTreeSpec)) compileTreeCard

/-- THE TIED CARD OF 'taborlaw19.CompileText'. -/
def compileTextCard : Claim7 := { stood := { row := compileTextRow, standIns := [], harness := (true, "b1cf2d2e3f470322ceedad00e35c818a4291b4d20c48b98c1f8333993962dcf6"), looks := true }, kinds := [], alts := [], laidByText := true, laidKinds := [.data, .data, .data, .data, .sentinel, .sentinel, .listed, .data, .pinned], laidTests := true, laidLooks := .later }
def CompileTextCardSaid : Prop := Claim7.holds Tryz.pinned (.plain (OpenSpec.ofChange compileTextSpec)) compileTextCard

/-- THE TIED CARD OF 'taborlaw19.CompileWide'. -/
def compileWideCard : Claim7 := { stood := { row := compileWideRow, standIns := [], harness := (true, "b1cf2d2e3f470322ceedad00e35c818a4291b4d20c48b98c1f8333993962dcf6"), looks := true }, kinds := [], alts := [], laidByText := true, laidKinds := [.data, .data, .data, .data, .sentinel, .sentinel, .listed, .data, .pinned], laidTests := true, laidLooks := .later }
def CompileWideCardSaid : Prop := Claim7.holds Tryz.pinned (.plain (OpenSpec.ofChange compileWideSpec)) compileWideCard

/-- THE SECOND FORM's CARD OF 'taborlaw13.ScopesBuiltin'. -/
def scopesBuiltinUptoCard : Claim7 := { stood := { row := scopesBuiltinUptoRow, standIns := [], harness := (true, "b1cf2d2e3f470322ceedad00e35c818a4291b4d20c48b98c1f8333993962dcf6"), looks := true }, kinds := [], alts := [], laidByText := true, laidKinds := [.data, .listed, .data, .pinned], laidTests := true, laidLooks := .later }
def ScopesBuiltinUptoCardSaid : Prop := Claim7.holds Tryz.pinned (.plain (OpenSpec.upto scopesBuiltinSpec)) scopesBuiltinUptoCard

/-- THE SECOND FORM's CARD OF 'taborlaw12.SyntaxAll'. -/
def syntaxAllUptoCard : Claim7 := { stood := { row := syntaxAllUptoRow, standIns := [], harness := (true, "b1cf2d2e3f470322ceedad00e35c818a4291b4d20c48b98c1f8333993962dcf6"), looks := true }, kinds := [], alts := [], laidByText := true, laidKinds := [.data, .data, .data, .data, .sentinel, .sentinel, .listed, .data, .pinned], laidTests := true, laidLooks := .later }
def SyntaxAllUptoCardSaid : Prop := Claim7.holds Tryz.pinned (.plain (OpenSpec.upto syntaxAllSpec)) syntaxAllUptoCard

/-- THE SECOND FORM's CARD OF 'taborlaw12.SyntaxCheck'. -/
def syntaxCheckUptoCard : Claim7 := { stood := { row := syntaxCheckUptoRow, standIns := [], harness := (true, "b1cf2d2e3f470322ceedad00e35c818a4291b4d20c48b98c1f8333993962dcf6"), looks := true }, kinds := [], alts := [], laidByText := true, laidKinds := [.data, .data, .data, .data, .sentinel, .sentinel, .listed, .data, .pinned], laidTests := true, laidLooks := .later }
def SyntaxCheckUptoCardSaid : Prop := Claim7.holds Tryz.pinned (.plain (OpenSpec.upto syntaxCheckSpec)) syntaxCheckUptoCard

/-- THE SECOND FORM's CARD OF 'taborlaw12.SyntaxPrint'. -/
def syntaxPrintUptoCard : Claim7 := { stood := { row := syntaxPrintUptoRow, standIns := [], harness := (true, "b1cf2d2e3f470322ceedad00e35c818a4291b4d20c48b98c1f8333993962dcf6"), looks := true }, kinds := [], alts := [], laidByText := true, laidKinds := [.data, .data, .data, .data, .sentinel, .sentinel, .listed, .data, .pinned], laidTests := true, laidLooks := .later }
def SyntaxPrintUptoCardSaid : Prop := Claim7.holds Tryz.pinned (.plain (OpenSpec.upto syntaxPrintSpec)) syntaxPrintUptoCard

/-- THE SECOND FORM's CARD OF 'taborlaw12.SyntaxBack'. -/
def syntaxBackUptoCard : Claim7 := { stood := { row := syntaxBackUptoRow, standIns := [], harness := (true, "b1cf2d2e3f470322ceedad00e35c818a4291b4d20c48b98c1f8333993962dcf6"), looks := true }, kinds := [], alts := [], laidByText := true, laidKinds := [.data, .data, .data, .data, .sentinel, .sentinel, .listed, .data, .pinned], laidTests := true, laidLooks := .later }
def SyntaxBackUptoCardSaid : Prop := Claim7.holds Tryz.pinned (.plain (OpenSpec.upto syntaxBackSpec)) syntaxBackUptoCard

/-- THE SECOND FORM's CARD OF 'taborlaw19.CompileTree'. -/
def compileTreeUptoCard : Claim7 := { stood := { row := compileTreeUptoRow, standIns := [], harness := (true, "b1cf2d2e3f470322ceedad00e35c818a4291b4d20c48b98c1f8333993962dcf6"), looks := true }, kinds := [], alts := [], laidByText := true, laidKinds := [.data, .data, .data, .data, .sentinel, .sentinel, .listed, .data, .pinned], laidTests := true, laidLooks := .later }
def CompileTreeUptoCardSaid : Prop := Claim7.holds Tryz.pinned (.plain (OpenSpec.upto compileTreeSpec)) compileTreeUptoCard

/-- THE SECOND FORM's CARD OF 'taborlaw19.CompileText'. -/
def compileTextUptoCard : Claim7 := { stood := { row := compileTextUptoRow, standIns := [], harness := (true, "b1cf2d2e3f470322ceedad00e35c818a4291b4d20c48b98c1f8333993962dcf6"), looks := true }, kinds := [], alts := [], laidByText := true, laidKinds := [.data, .data, .data, .data, .sentinel, .sentinel, .listed, .data, .pinned], laidTests := true, laidLooks := .later }
def CompileTextUptoCardSaid : Prop := Claim7.holds Tryz.pinned (.plain (OpenSpec.upto compileTextSpec)) compileTextUptoCard

/-- THE SECOND FORM's CARD OF 'taborlaw19.CompileWide'. -/
def compileWideUptoCard : Claim7 := { stood := { row := compileWideUptoRow, standIns := [], harness := (true, "b1cf2d2e3f470322ceedad00e35c818a4291b4d20c48b98c1f8333993962dcf6"), looks := true }, kinds := [], alts := [], laidByText := true, laidKinds := [.data, .data, .data, .data, .sentinel, .sentinel, .listed, .data, .pinned], laidTests := true, laidLooks := .later }
def CompileWideUptoCardSaid : Prop := Claim7.holds Tryz.pinned (.plain (OpenSpec.upto compileWideSpec)) compileWideUptoCard
end Rows
end Go.Proofs.YtkbcnacjaakleaaGreatDoor
