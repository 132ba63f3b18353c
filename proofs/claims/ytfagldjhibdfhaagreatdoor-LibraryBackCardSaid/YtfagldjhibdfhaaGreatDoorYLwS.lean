/- LibraryReps: the walk. -/
import Derived.Test.YtfagldjhibdfhaaGreatDoorYLwR
namespace Go.Proofs.YtfagldjhibdfhaaGreatDoor
open Go.RowKit
set_option linter.unusedVariables false
set_option linter.unusedSimpArgs false

theorem blk_vals {w : World} {k : Nat} {cs : Array Value} {l : List Vl} (hb : Blk w k 26 cs) (hcs : cs = (flat l).toArray) : ValsAt w (some ⟨k, 0, none⟩) l := fun i x hx => by
 subst hcs
 obtain ⟨g1, g2, g3⟩ := flat_get l i x hx
 refine ⟨k, 0, rfl, ?_, ?_, ?_⟩
 ·rw [hb.cell]; simpa using g1
 ·rw [hb.cell]; simpa using g2
 ·rw [hb.cell]; simpa using g3
end Go.Proofs.YtfagldjhibdfhaaGreatDoor
