/- The document's Names, Has, kinds. What the document asks of arguments; how its heap is behind a step. The document's small functions: number, made, at, find. The document's find. The document's Sub. -/
import Derived.Test.YtfagldjhibdfhaaGreatDoorYA5
import Derived.Test.YtfagldjhibdfhaaGreatDoorYA3
import Derived.Test.YtfagldjhibdfhaaGreatDoorYA9
import Derived.Test.YtfagldjhibdfhaaGreatDoorYD5
import Derived.Test.YtfagldjhibdfhaaGreatDoorYA4
import Derived.Test.YtfagldjhibdfhaaGreatDoorYD1
namespace Go.Proofs.YtfagldjhibdfhaaGreatDoor
open Go.RowKit
set_option linter.unusedVariables false
set_option linter.unusedSimpArgs false

end Go.Proofs.YtfagldjhibdfhaaGreatDoor
namespace Go.Proofs.YtfagldjhibdfhaaGreatDoor
open Go.RowKit
set_option linter.unusedVariables false
set_option linter.unusedSimpArgs false

structure RS (w : World) (g : Nat) (tv : Value) (w' : World) (tv' : Value) (H' : Hp) : Prop where
 heap : RHeapIn w' g tv' H'
 touch : Touch (RFoot g tv) w w'
 foot : ∀ x, RFoot g tv' x → RFoot g tv x ∨ w.heap.size ≤ x
def RStep (w : World) (g : Nat) (tv : Value) (w' : World) (H' : Hp) : Prop := ∃ tv', RS w g tv w' tv' H'
section
variable {w w1 w2 : World} {g : Nat} {tv tv1 tv2 : Value} {H H1 H2 : Hp}
theorem RS.of_ext (h : RHeapIn w g tv H) (he : Ext w w1) : RS w g tv w1 tv H := ⟨h.ext he, .of_ext he, fun _ hx => .inl hx⟩
theorem RS.of_touch (h : RHeapIn w1 g tv H1) (ht : Touch (RFoot g tv) w w1) : RS w g tv w1 tv H1 := ⟨h, ht, fun _ hx => .inl hx⟩
theorem RS.trans (a : RS w g tv w1 tv1 H1) (b : RS w1 g tv1 w2 tv2 H2) : RS w g tv w2 tv2 H2 :=
 ⟨b.heap, a.touch.transn b.touch a.foot, fun x hx => by
  rcases b.foot x hx with h | h
  ·exact a.foot x h
  ·exact .inr (Nat.le_trans a.touch.size h)⟩
theorem RS.ext (a : RS w g tv w1 tv1 H1) (he : Ext w1 w2) : RS w g tv w2 tv1 H1 := ⟨a.heap.ext he, a.touch.ext he, a.foot⟩
theorem RS.pre (he : Ext w w1) (a : RS w1 g tv w2 tv2 H2) : RS w g tv w2 tv2 H2 :=
 ⟨a.heap, Touch.pre he a.touch, fun x hx => (a.foot x hx).imp id (fun h => Nat.le_trans he.size h)⟩
theorem RS.step (a : RS w g tv w1 tv1 H1) : RStep w g tv w1 H1 := ⟨_, a⟩
end
def RdE (w : World) (g : Nat) (tv : Value) (r : Rs) (e : Ending) (w' : World) : Prop := e = .returned (.tuple #[(if r.w = sNone then r.v else Vl.zero).v, .string r.w]) ∧ RStep w g tv w' r.H
end Go.Proofs.YtfagldjhibdfhaaGreatDoor
namespace Go.Proofs.YtfagldjhibdfhaaGreatDoor
open Go.RowKit
set_option linter.unusedVariables false
set_option linter.unusedSimpArgs false

theorem mkR_zero (H : Hp) (s : ByteArray) : (if (mkR H s).w = sNone then (mkR H s).v else Vl.zero) = (mkR H s).v := by
 unfold mkR mkV mkW
 simp only
 split
 ·rw [if_neg (by decide)]
 ·split
  ·rw [if_pos rfl]
  ·rw [if_neg (by decide)]
theorem RS.notin {w w' : World} {g k : Nat} {tv tv' : Value} {H' : Hp} (hs : RS w g tv w' tv' H') (hk : k < w.heap.size) (hn : ¬ RFoot g tv k) : ¬ RFoot g tv' k := fun hx => by
 rcases hs.foot k hx with h | h
 ·exact hn h
 ·omega
end Go.Proofs.YtfagldjhibdfhaaGreatDoor
namespace Go.Proofs.YtfagldjhibdfhaaGreatDoor
open Go.RowKit
set_option linter.unusedVariables false
set_option linter.unusedSimpArgs false

end Go.Proofs.YtfagldjhibdfhaaGreatDoor
namespace Go.Proofs.YtfagldjhibdfhaaGreatDoor
open Go.RowKit
set_option linter.unusedVariables false
set_option linter.unusedSimpArgs false

end Go.Proofs.YtfagldjhibdfhaaGreatDoor
