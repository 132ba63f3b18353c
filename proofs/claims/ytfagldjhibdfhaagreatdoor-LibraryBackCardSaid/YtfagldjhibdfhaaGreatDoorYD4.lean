/- A value is put under a key, by the document's heap: the rows are built anew. -/
import Derived.Test.YtfagldjhibdfhaaGreatDoorYD1
import Derived.Deep.RegionLaw
import Derived.Deep.CutRange
import Derived.Deep.DeepCutAuto
namespace Go.Proofs.YtfagldjhibdfhaaGreatDoor
open Go.RowKit
set_option linter.unusedVariables false
set_option linter.unusedSimpArgs false

end Go.Proofs.YtfagldjhibdfhaaGreatDoor
