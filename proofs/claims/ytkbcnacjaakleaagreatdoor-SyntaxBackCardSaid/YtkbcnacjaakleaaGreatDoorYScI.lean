/- The document's Level and may. -/
import Derived.Test.YtkbcnacjaakleaaGreatDoorYP06
import Derived.Test.YtkbcnacjaakleaaGreatDoorYP12
set_option maxRecDepth 100000
set_option maxHeartbeats 32000000
set_option linter.unusedVariables false
set_option linter.unusedSimpArgs false
namespace Go.Proofs.YtkbcnacjaakleaaGreatDoor
open Go.RowKit

theorem ne_empty {s : ByteArray} (h : ¬ s = eB) : s.toList.isEmpty = false ∧ (s.toList == []) = false ∧ ¬ s.toList = [] ∧ (s == eB) = false := by
 have h2 : ¬ s.toList = [] := fun e => h (by
  obtain ⟨a⟩ := s
  rw [Lib.toList_data] at e
  have : a = #[] := by simpa using e
  rw [this])
 have h3 : (s.toList == []) = false := beq_eq_false_iff_ne.2 h2
 refine ⟨by cases hs : s.toList with | nil => exact absurd hs h2 | cons _ _ => rfl, h3, h2, ?_⟩
 have h4 : eB.toList = [] := by rw [Lib.toList_data]
 rw [ba_beq, h4]
 exact h3
end Go.Proofs.YtkbcnacjaakleaaGreatDoor
