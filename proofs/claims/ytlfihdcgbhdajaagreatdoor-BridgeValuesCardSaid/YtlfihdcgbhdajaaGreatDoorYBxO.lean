/- A number among the arguments of a law. -/
import Derived.Test.YtlfihdcgbhdajaaGreatDoorYRtZ
import Derived.Test.YtlfihdcgbhdajaaGreatDoorYDvF
import Derived.Deep.DeepWitnessRowRef
namespace Go.Proofs.YtlfihdcgbhdajaaGreatDoor
open Go.ChangeShapes Go.WideShapes Go.ChangeAt Go.RowKit Go.Joins Go.Deep
set_option linter.unusedVariables false
set_option linter.unusedSimpArgs false

theorem wf_in64 {n : Int} (h : (Lit.int .i64 n).wf = true) : in64 n := by
 simp [Lit.wf, IntKind.min, IntKind.max, IntKind.signed, IntKind.bits] at h
 unfold in64
 omega
end Go.Proofs.YtlfihdcgbhdajaaGreatDoor
