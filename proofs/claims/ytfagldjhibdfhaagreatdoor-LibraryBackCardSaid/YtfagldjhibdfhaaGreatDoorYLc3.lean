/- Call of no heap. -/
import Derived.Test.YtfagldjhibdfhaaGreatDoorYB5
import Derived.StillTailTactics
import Derived.ScopeJumps
namespace Go.Proofs.YtfagldjhibdfhaaGreatDoor
open Go.RowKit
set_option linter.unusedVariables false
set_option linter.unusedSimpArgs false

end Go.Proofs.YtfagldjhibdfhaaGreatDoor
