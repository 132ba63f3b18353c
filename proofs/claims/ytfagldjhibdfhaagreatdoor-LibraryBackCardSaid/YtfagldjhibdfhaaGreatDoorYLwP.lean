/- Laws of one or two texts and numbers: LibrarySubs. -/
import Derived.Test.YtfagldjhibdfhaaGreatDoorYE4
namespace Go.Proofs.YtfagldjhibdfhaaGreatDoor
open Go.RowKit
set_option linter.unusedVariables false
set_option linter.unusedSimpArgs false

structure VB (w0 w : World) (L : List (Nat × TypeId × Array Value)) : Prop where
 ext : Ext w0 w
 row : ∀ p ∈ L, Blk w p.1 p.2.1 p.2.2
theorem VB.nil (w : World) : VB w w [] := ⟨Ext.refl w, fun p hp => (List.not_mem_nil hp).elim⟩
theorem VB.ext' {w0 w w' : World} {L : List (Nat × TypeId × Array Value)} (h : VB w0 w L) (he : Ext w w') : VB w0 w' L := ⟨h.ext.trans he, fun p hp => (h.row p hp).ext he⟩
theorem VB.new {w0 w : World} {L : List (Nat × TypeId × Array Value)} (h : VB w0 w L) (k : Nat) (hk : k = w.heap.size) (t : TypeId) (cs : Array Value) : VB w0 (w.alloc (.cells cs t)) ((k, t, cs) :: L) := by
 subst hk
 refine ⟨h.ext.alloc _, fun p hp => ?_⟩
 rcases List.mem_cons.1 hp with rfl | hp
 ·exact Blk.new _ _ _
 ·exact (h.row p hp).alloc _
theorem n1 {a : Vl} (ha : in64 a.n) : ∀ x ∈ [a], in64 x.n := fun x hx => by
 rcases List.mem_cons.1 hx with rfl | hx
 ·exact ha
 ·exact (List.not_mem_nil hx).elim
theorem n2 {a b : Vl} (ha : in64 a.n) (hb : in64 b.n) : ∀ x ∈ [a, b], in64 x.n := fun x hx => by
 rcases List.mem_cons.1 hx with rfl | hx
 ·exact ha
 ·exact n1 hb x hx
theorem n3 {a b c : Vl} (ha : in64 a.n) (hb : in64 b.n) (hc : in64 c.n) : ∀ x ∈ [a, b, c], in64 x.n := fun x hx => by
 rcases List.mem_cons.1 hx with rfl | hx
 ·exact ha
 ·exact n2 hb hc x hx
end Go.Proofs.YtfagldjhibdfhaaGreatDoor
