/- tabor.tree.All as an iterator; tabor.tree.Count. -/
import Derived.Test.YtkbcnacjaakleaaGreatDoorYP34
import Derived.Test.YtkbcnacjaakleaaGreatDoorYP08
set_option maxRecDepth 100000
set_option maxHeartbeats 32000000
set_option linter.unusedVariables false
set_option linter.unusedSimpArgs false
namespace Go.Proofs.YtkbcnacjaakleaaGreatDoor
open Go.RowKit Go.Shelf
attribute [local go_sem] Oper.semAt_some

theorem store_fn {P : Program} {a : Addr} {m : Mode} {w : World} (fn : Fn) (first captured : Array Value) : (store a (.func fn first captured) m).run P w = stored P w a (.func fn first captured) m := run_store P w a _ m rfl
attribute [local go_sem] store_fn
end Go.Proofs.YtkbcnacjaakleaaGreatDoor
