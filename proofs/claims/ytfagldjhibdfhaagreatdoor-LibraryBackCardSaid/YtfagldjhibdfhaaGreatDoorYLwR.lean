/- heavy, size: they tell something. -/
import Derived.Test.YtfagldjhibdfhaaGreatDoorYLwP
import Derived.BigQuiet
import Derived.Test.YtfagldjhibdfhaaGreatDoorYB5
namespace Go.Proofs.YtfagldjhibdfhaaGreatDoor
open Go.RowKit
set_option linter.unusedVariables false
set_option linter.unusedSimpArgs false

def HvE (w : World) (e : Ending) (w' : World) : Prop := (∃ b, e = .returned (.bool b)) ∧ Ext w w'
end Go.Proofs.YtfagldjhibdfhaaGreatDoor
