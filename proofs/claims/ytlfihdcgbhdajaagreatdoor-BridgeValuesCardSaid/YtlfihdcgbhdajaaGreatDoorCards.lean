/-
  DERIVED. GIVEN WITH THE SEED: THE CARDS: each row of YtlfihdcgbhdajaaGreatDoorRows.lean that lists a variable, with what it lists TIED to the program's text (the seventh form; the later family's looks); each row that meets fmt, with fmt's text TOLD by the authors' own Lean function (tested against real Go, not proved from fmt's source: count such statements apart). THE CARD IS WHAT COUNTS. Prove the row's statement (the work); the ties are given (YtlfihdcgbhdajaaGreatDoorTie.lean); close each card by the builder's one call (the guide's Derived/Test/ToyasCard.lean, 'card_holds'). Laid BY PROGRAM, IN A SANDBOX (cutbox-door.mjs). By AI agents, Wed Nov 11 2026. No macro, syntax, notation, axiom, sorry.
-/
import Derived.Test.YtlfihdcgbhdajaaGreatDoorRows
import GoSem.ClaimSeven
namespace Go.Proofs.YtlfihdcgbhdajaaGreatDoor
namespace Rows

/-- THE TIED CARD OF 'taborlaw16.BridgeValues'. -/
def bridgeValuesCard : Claim7 := { stood := { row := bridgeValuesRow, standIns := [], harness := (true, "069e3474ef34a2e196cde866c37bc4764a95fa0939617e71851e93fd3dc9ca9b"), looks := true }, kinds := [], alts := [], laidByText := true, laidKinds := [.data, .data, .data], laidTests := true, laidLooks := .later }
def BridgeValuesCardSaid : Prop := Claim7.holds Tryz.pinned (.plain (OpenSpec.ofChange bridgeValuesSpec)) bridgeValuesCard

/-- THE SECOND FORM's CARD OF 'taborlaw16.BridgeValues'. -/
def bridgeValuesUptoCard : Claim7 := { stood := { row := bridgeValuesUptoRow, standIns := [], harness := (true, "069e3474ef34a2e196cde866c37bc4764a95fa0939617e71851e93fd3dc9ca9b"), looks := true }, kinds := [], alts := [], laidByText := true, laidKinds := [.data, .data, .data], laidTests := true, laidLooks := .later }
def BridgeValuesUptoCardSaid : Prop := Claim7.holds Tryz.pinned (.plain (OpenSpec.upto bridgeValuesSpec)) bridgeValuesUptoCard
end Rows
end Go.Proofs.YtlfihdcgbhdajaaGreatDoor
