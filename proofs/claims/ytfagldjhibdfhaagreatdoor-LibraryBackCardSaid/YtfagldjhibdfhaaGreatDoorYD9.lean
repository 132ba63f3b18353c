/- The document's concat. The document's insert. -/
import Derived.Test.YtfagldjhibdfhaaGreatDoorYD8
import Derived.Test.YtfagldjhibdfhaaGreatDoorYA9
import Derived.Test.YtfagldjhibdfhaaGreatDoorYB1
import Derived.Test.YtfagldjhibdfhaaGreatDoorYA8
import Derived.Deep.DeepCutAuto
import Derived.Deep.CutBlock
namespace Go.Proofs.YtfagldjhibdfhaaGreatDoor
open Go.RowKit
set_option linter.unusedVariables false
set_option linter.unusedSimpArgs false

end Go.Proofs.YtfagldjhibdfhaaGreatDoor
namespace Go.Proofs.YtfagldjhibdfhaaGreatDoor
open Go.RowKit
set_option linter.unusedVariables false
set_option linter.unusedSimpArgs false

structure RLpI (w wr : World) (g : Nat) (tv : Value) (H : Hp) (t v : Vl) (bv : Nat) (Hc : Hp) : Prop where
 heap : RHeapIn wr g tv Hc
 touch : Touch (RFoot g tv) w wr
 len : Hc.tabs.length = H.tabs.length
 of : ofW Hc t = sNone
 low : w.heap.size < bv
 box : Blk wr bv 26 #[.int .i64 v.k, .int .i64 v.n, .string v.s]
 res : Blk wr w.heap.size 26 zcells
section
variable {w wr w' Z : World} {g bv : Nat} {tv : Value} {H Hc : Hp} {t v k x : Vl}
theorem RLpI.set (h : RLpI w wr g tv H t v bv Hc) (hn : ∀ x, w.heap.size ≤ x → ¬ RFoot g tv x) (hZ : Ext wr Z) (hh : RHeapIn w' g tv (setH Hc t k x)) (ht : Touch (RFoot g tv) Z w') : RLpI w w' g tv H t v bv (setH Hc t k x) := by
 have ht2 := Touch.pre hZ ht
 exact ⟨hh, h.touch.trans ht2, by rw [setH_len]; exact h.len, by rw [ofW_set]; exact h.of, h.low, (ht2.block _ h.box.lt (hn _ (Nat.le_of_lt h.low))).trans h.box, (ht2.block _ h.res.lt (hn _ (Nat.le_refl _))).trans h.res⟩
theorem RLpI.ext (h : RLpI w wr g tv H t v bv Hc) (hZ : Ext wr Z) : RLpI w Z g tv H t v bv Hc := ⟨h.heap.ext hZ, h.touch.ext hZ, h.len, h.of, h.low, h.box.ext hZ, h.res.ext hZ⟩
theorem RLpI.done {r : Rs} {x : Vl} {o : ByteArray} (h : RLpI w wr g tv H t v bv Hc) (h1 : r.w = o) (h2 : r.H = Hc) (h3 : x = if r.w = sNone then r.v else Vl.zero) (u0 u1 u2 : Value) :
  RdE w g tv r (.returned (.tuple #[x.v, .string o])) (((wr.setCell ⟨w.heap.size, 0, none⟩ u0).setCell ⟨w.heap.size, 1, none⟩ u1).setCell ⟨w.heap.size, 2, none⟩ u2) := by
 subst h1 h2 h3
 exact ⟨rfl, (RS.zeroed (RS.of_touch h.heap h.touch) h.res (Nat.le_refl _) u0 u1 u2).step⟩
end
end Go.Proofs.YtfagldjhibdfhaaGreatDoor
