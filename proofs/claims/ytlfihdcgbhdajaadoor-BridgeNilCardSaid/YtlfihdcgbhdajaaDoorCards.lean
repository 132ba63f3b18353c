/-
  DERIVED. GIVEN WITH THE SEED: THE CARDS: each row of YtlfihdcgbhdajaaDoorRows.lean that lists a variable, with what it lists TIED to the program's text (the seventh form; the later family's looks); each row that meets fmt, with fmt's text TOLD by the authors' own Lean function (tested against real Go, not proved from fmt's source: count such statements apart). THE CARD IS WHAT COUNTS. Prove the row's statement (the work); the ties are given (YtlfihdcgbhdajaaDoorTie.lean); close each card by the builder's one call (the guide's Derived/Test/ToyasCard.lean, 'card_holds'). Laid BY PROGRAM, IN A SANDBOX (cutbox-door.mjs). By AI agents, Wed Nov 11 2026. No macro, syntax, notation, axiom, sorry.
-/
import Derived.Test.YtlfihdcgbhdajaaDoorRows
import GoSem.ClaimSeven
namespace Go.Proofs.YtlfihdcgbhdajaaDoor
namespace Rows

/-- THE TIED CARD OF 'taborlaw16.BridgeNil'. -/
def bridgeNilCard : Claim7 := { stood := { row := bridgeNilRow, standIns := [], harness := (true, "cc3386ab0f60150571f18937e38af13a93d3dba194924fcd559cfc696f2d1119"), looks := true }, kinds := [], alts := [], laidByText := true, laidKinds := [.data, .data, .data], laidTests := true, laidLooks := .later }
def BridgeNilCardSaid : Prop := Claim7.holds Tryd.pinned (.plain (OpenSpec.ofChange bridgeNilSpec)) bridgeNilCard

/-- THE TIED CARD OF 'taborlaw16.BridgeBack'. -/
def bridgeBackCard : Claim7 := { stood := { row := bridgeBackRow, standIns := [], harness := (true, "cc3386ab0f60150571f18937e38af13a93d3dba194924fcd559cfc696f2d1119"), looks := true }, kinds := [], alts := [], laidByText := true, laidKinds := [.data, .data, .data], laidTests := true, laidLooks := .later }
def BridgeBackCardSaid : Prop := Claim7.holds Tryd.pinned (.plain (OpenSpec.ofChange bridgeBackSpec)) bridgeBackCard

/-- THE SECOND FORM's CARD OF 'taborlaw16.BridgeNil'. -/
def bridgeNilUptoCard : Claim7 := { stood := { row := bridgeNilUptoRow, standIns := [], harness := (true, "cc3386ab0f60150571f18937e38af13a93d3dba194924fcd559cfc696f2d1119"), looks := true }, kinds := [], alts := [], laidByText := true, laidKinds := [.data, .data, .data], laidTests := true, laidLooks := .later }
def BridgeNilUptoCardSaid : Prop := Claim7.holds Tryd.pinned (.plain (OpenSpec.upto bridgeNilSpec)) bridgeNilUptoCard

/-- THE SECOND FORM's CARD OF 'taborlaw16.BridgeBack'. -/
def bridgeBackUptoCard : Claim7 := { stood := { row := bridgeBackUptoRow, standIns := [], harness := (true, "cc3386ab0f60150571f18937e38af13a93d3dba194924fcd559cfc696f2d1119"), looks := true }, kinds := [], alts := [], laidByText := true, laidKinds := [.data, .data, .data], laidTests := true, laidLooks := .later }
def BridgeBackUptoCardSaid : Prop := Claim7.holds Tryd.pinned (.plain (OpenSpec.upto bridgeBackSpec)) bridgeBackUptoCard
end Rows
end Go.Proofs.YtlfihdcgbhdajaaDoor
