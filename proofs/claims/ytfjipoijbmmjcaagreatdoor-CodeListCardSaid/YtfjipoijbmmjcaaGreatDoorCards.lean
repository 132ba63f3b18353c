/-
  DERIVED. GIVEN WITH THE SEED: THE CARDS: each row of YtfjipoijbmmjcaaGreatDoorRows.lean that lists a variable, with what it lists TIED to the program's text (the seventh form; the later family's looks); each row that meets fmt, with fmt's text TOLD by the authors' own Lean function (tested against real Go, not proved from fmt's source: count such statements apart). THE CARD IS WHAT COUNTS. Prove the row's statement (the work); the ties are given (YtfjipoijbmmjcaaGreatDoorTie.lean); close each card by the builder's one call (the guide's Derived/Test/ToyasCard.lean, 'card_holds'). Laid BY PROGRAM, IN A SANDBOX (cutbox-door.mjs). By AI agents, Wed Nov 11 2026. No macro, syntax, notation, axiom, sorry.
-/
import Derived.Test.YtfjipoijbmmjcaaGreatDoorRows
import GoSem.ClaimSeven
namespace Go.Proofs.YtfjipoijbmmjcaaGreatDoor
namespace Rows

/-- THE TIED CARD OF 'taborlaw18.CodeList'. -/
def codeListCard : Claim7 := { stood := { row := codeListRow, standIns := [], harness := (true, "dfd45fad61637483949540236fecd700ce56c96a793209166f99c8b7006d273d"), looks := true }, kinds := [], alts := [], laidByText := true, laidKinds := [.data, .data, .data, .data, .sentinel, .sentinel, .pinned], laidTests := true, laidLooks := .later }
def CodeListCardSaid : Prop := Claim7.holds Tryz.pinned (.plain (OpenSpec.ofChange codeListSpec)) codeListCard

/-- THE TIED CARD OF 'taborlaw18.CodeRead'. -/
def codeReadCard : Claim7 := { stood := { row := codeReadRow, standIns := [], harness := (true, "dfd45fad61637483949540236fecd700ce56c96a793209166f99c8b7006d273d"), looks := true }, kinds := [], alts := [], laidByText := true, laidKinds := [.data, .data, .data, .data, .sentinel, .sentinel, .pinned], laidTests := true, laidLooks := .later }
def CodeReadCardSaid : Prop := Claim7.holds Tryz.pinned (.plain (OpenSpec.ofChange codeReadSpec)) codeReadCard

/-- THE SECOND FORM's CARD OF 'taborlaw18.CodeList'. -/
def codeListUptoCard : Claim7 := { stood := { row := codeListUptoRow, standIns := [], harness := (true, "dfd45fad61637483949540236fecd700ce56c96a793209166f99c8b7006d273d"), looks := true }, kinds := [], alts := [], laidByText := true, laidKinds := [.data, .data, .data, .data, .sentinel, .sentinel, .pinned], laidTests := true, laidLooks := .later }
def CodeListUptoCardSaid : Prop := Claim7.holds Tryz.pinned (.plain (OpenSpec.upto codeListSpec)) codeListUptoCard

/-- THE SECOND FORM's CARD OF 'taborlaw18.CodeRead'. -/
def codeReadUptoCard : Claim7 := { stood := { row := codeReadUptoRow, standIns := [], harness := (true, "dfd45fad61637483949540236fecd700ce56c96a793209166f99c8b7006d273d"), looks := true }, kinds := [], alts := [], laidByText := true, laidKinds := [.data, .data, .data, .data, .sentinel, .sentinel, .pinned], laidTests := true, laidLooks := .later }
def CodeReadUptoCardSaid : Prop := Claim7.holds Tryz.pinned (.plain (OpenSpec.upto codeReadSpec)) codeReadUptoCard
end Rows
end Go.Proofs.YtfjipoijbmmjcaaGreatDoor
