/- The document's may, class by class. -/
import Derived.Test.YtkbcnacjaakleaaGreatDoorYScI
set_option maxRecDepth 100000
set_option maxHeartbeats 32000000
set_option linter.unusedVariables false
set_option linter.unusedSimpArgs false
namespace Go.Proofs.YtkbcnacjaakleaaGreatDoor
open Go.RowKit

end Go.Proofs.YtkbcnacjaakleaaGreatDoor
