/- The order of keys, by the document; a part of a row behind another row. A table's keys, by the document's heap. -/
import Derived.Test.YtfagldjhibdfhaaGreatDoorYD5
import Derived.Test.YtfagldjhibdfhaaGreatDoorYA6
import Derived.LoopTactic
import Derived.Deep.RegionLaw
import Derived.Deep.CutRange
import Derived.Deep.DeepCutAuto
import Derived.Deep.CutBlock
namespace Go.Proofs.YtfagldjhibdfhaaGreatDoor
open Go.RowKit
set_option linter.unusedVariables false
set_option linter.unusedSimpArgs false

end Go.Proofs.YtfagldjhibdfhaaGreatDoor
namespace Go.Proofs.YtfagldjhibdfhaaGreatDoor
open Go.RowKit
set_option linter.unusedVariables false
set_option linter.unusedSimpArgs false

theorem KOk.size {k : Vl} (h : KOk k) : k.s.size ≤ 1048576 := by
 have hc := h.ck
 unfold Vl.ck checkB at hc
 rcases h.kind with h2 | h3
 ·simp [h2] at hc
  rw [show k.s = sNone from toList_nil (by first | exact hc | simpa using hc)]
  decide
 ·simp [h3] at hc
  exact hc.2
end Go.Proofs.YtfagldjhibdfhaaGreatDoor
