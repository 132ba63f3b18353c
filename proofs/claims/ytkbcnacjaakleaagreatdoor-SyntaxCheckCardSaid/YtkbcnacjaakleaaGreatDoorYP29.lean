/- What is told is read as the tree: expressions. What is told is read as the tree: tables, operators, all expressions. -/
import Derived.Test.YtkbcnacjaakleaaGreatDoorYP28
set_option maxRecDepth 100000
set_option maxHeartbeats 32000000
set_option linter.unusedVariables false
set_option linter.unusedSimpArgs false
namespace Go.Proofs.YtkbcnacjaakleaaGreatDoor

section
variable {z : Wz}
def SpOk (z : Wz) (x : Nd) : Prop := ∀ (d o p f : Nat), deepN d x = true → o + d ≤ 100 → Ws z p (tellN x) → isW z (p + (tellN x).length) [40] = false → 10 * (z.ws.length - p) ≤ f → Spine z (pz z f) o p (p + (tellN x).length) x
def SpTOk (z : Wz) (x : Nd) : Prop := ∀ (d o p f : Nat), deepN d x = true → o + d ≤ 100 → Ws z p (tellN x) → isW z (p + (tellN x).length) [40] = false → 10 * (z.ws.length - p) ≤ f → SpineT z (pz z f) o p (p + (tellN x).length) x
theorem SpTOk.sp {x : Nd} (h : SpTOk z x) : SpOk z x := fun d o p f h1 h2 h3 h4 h5 => (h d o p f h1 h2 h3 h4 h5).sp
end
end Go.Proofs.YtkbcnacjaakleaaGreatDoor
namespace Go.Proofs.YtkbcnacjaakleaaGreatDoor

section
variable {z : Wz}
end
end Go.Proofs.YtkbcnacjaakleaaGreatDoor
