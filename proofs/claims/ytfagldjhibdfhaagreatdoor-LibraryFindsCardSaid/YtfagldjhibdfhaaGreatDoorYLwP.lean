/- Laws of one or two texts and numbers: LibrarySubs. -/
import Derived.Test.YtfagldjhibdfhaaGreatDoorYE4
namespace Go.Proofs.YtfagldjhibdfhaaGreatDoor
open Go.RowKit
set_option linter.unusedVariables false
set_option linter.unusedSimpArgs false

structure VB (w0 w : World) (L : List (Nat × TypeId × Array Value)) : Prop where
 ext : Ext w0 w
 row : ∀ p ∈ L, Blk w p.1 p.2.1 p.2.2
theorem VB.nil (w : World) : VB w w [] := ⟨Ext.refl w, fun p hp => (List.not_mem_nil hp).elim⟩
theorem VB.ext' {w0 w w' : World} {L : List (Nat × TypeId × Array Value)} (h : VB w0 w L) (he : Ext w w') : VB w0 w' L := ⟨h.ext.trans he, fun p hp => (h.row p hp).ext he⟩
theorem VB.new {w0 w : World} {L : List (Nat × TypeId × Array Value)} (h : VB w0 w L) (k : Nat) (hk : k = w.heap.size) (t : TypeId) (cs : Array Value) : VB w0 (w.alloc (.cells cs t)) ((k, t, cs) :: L) := by
 subst hk
 refine ⟨h.ext.alloc _, fun p hp => ?_⟩
 rcases List.mem_cons.1 hp with rfl | hp
 ·exact Blk.new _ _ _
 ·exact (h.row p hp).alloc _
theorem asks0 (w : World) (hL : LLaid w) (c : Int) (hc : in64 c) (name : ByteArray) (k n : Nat) (cs : Array Value) (l : List Vl) (hb : Blk w k 26 cs) (hcs : cs = (flat l).toArray) (hl : l.length = n) (hn : n ≤ 1000) (hx : ∀ x ∈ l, in64 x.n) :
  Calls Tryz.prog 34 #[.agg #[.int .i64 c, .slice none 0 0], .string name, .slice (some ⟨k, 0, none⟩) n n] w fun e w' => e = .returned (.bool true) ∧ Ext w w' := by
 subst hcs hl
 exact asks_any w hL c none 0 [] ⟨hc, by decide, fun T hT => (List.not_mem_nil hT).elim⟩ (fun i T hT => by simp at hT) name (some ⟨k, 0, none⟩) l l.length (fun i x hx => by
  obtain ⟨g1, g2, g3⟩ := flat_get l i x hx
  refine ⟨k, 0, rfl, ?_, ?_, ?_⟩
  ·rw [hb.cell]; simpa using g1
  ·rw [hb.cell]; simpa using g2
  ·rw [hb.cell]; simpa using g3) hn hx (fun h => by cases h)
theorem in64_0 : in64 0 := ⟨by decide, by decide⟩
theorem in64_1000 : in64 1000 := ⟨by decide, by decide⟩
theorem n1 {a : Vl} (ha : in64 a.n) : ∀ x ∈ [a], in64 x.n := fun x hx => by
 rcases List.mem_cons.1 hx with rfl | hx
 ·exact ha
 ·exact (List.not_mem_nil hx).elim
theorem n2 {a b : Vl} (ha : in64 a.n) (hb : in64 b.n) : ∀ x ∈ [a, b], in64 x.n := fun x hx => by
 rcases List.mem_cons.1 hx with rfl | hx
 ·exact ha
 ·exact n1 hb x hx
theorem n3 {a b c : Vl} (ha : in64 a.n) (hb : in64 b.n) (hc : in64 c.n) : ∀ x ∈ [a, b, c], in64 x.n := fun x hx => by
 rcases List.mem_cons.1 hx with rfl | hx
 ·exact ha
 ·exact n2 hb hc x hx
end Go.Proofs.YtfagldjhibdfhaaGreatDoor
