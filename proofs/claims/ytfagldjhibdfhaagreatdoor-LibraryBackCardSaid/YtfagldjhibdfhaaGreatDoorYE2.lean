/- The document's call: what each function does, by its name. The document's call of any function; its Call. -/
import Derived.Test.YtfagldjhibdfhaaGreatDoorYE1
import Derived.Test.YtfagldjhibdfhaaGreatDoorYB5
import Derived.Test.YtfagldjhibdfhaaGreatDoorYD7
namespace Go.Proofs.YtfagldjhibdfhaaGreatDoor
open Go.RowKit
set_option linter.unusedVariables false
set_option linter.unusedSimpArgs false

def RdF (w : World) (g : Nat) (tv : Value) (H' : Hp) (x : Vl) (o : ByteArray) (e : Ending) (w' : World) : Prop := e = .returned (.tuple #[x.v, .string o]) ∧ RStep w g tv w' H'
theorem RdF.of {w w1 w' : World} {g : Nat} {tv : Value} {H' : Hp} (he : Ext w w1) (hb : Blk w1 w.heap.size 26 zcells) (hn : ¬ RFoot g tv w.heap.size) (hs : RStep w1 g tv w' H') :
  Blk w' w.heap.size 26 zcells ∧ ∀ u0 u1 u2, RStep w g tv (((w'.setCell ⟨w.heap.size, 0, none⟩ u0).setCell ⟨w.heap.size, 1, none⟩ u1).setCell ⟨w.heap.size, 2, none⟩ u2) H' := by
 obtain ⟨tv', hs⟩ := hs
 have h2 := (hs.touch.block _ hb.lt hn).trans hb
 exact ⟨h2, fun u0 u1 u2 => ((RS.pre he hs).zeroed h2 (Nat.le_refl _) u0 u1 u2).step⟩
end Go.Proofs.YtfagldjhibdfhaaGreatDoor
namespace Go.Proofs.YtfagldjhibdfhaaGreatDoor
open Go.RowKit
set_option linter.unusedVariables false
set_option linter.unusedSimpArgs false

theorem ck_sound {v : Vl} (h : v.ck = true) (hn : in64 v.n) : Sound v := by
 refine ⟨hn, ?_⟩
 have he : v.s.toList.isEmpty = true → v.s.size ≤ 1048576 := fun e => by
  rw [toList_nil (List.isEmpty_iff.1 e)]
  decide
 unfold Vl.ck checkB at h
 by_cases h0 : v.k = 0
 ·simp [h0] at h; exact he (by simp [h.2])
 ·by_cases h1 : v.k = 1
  ·simp [h1] at h; exact he (by simp [h.1])
  ·by_cases h2 : v.k = 2
   ·simp [h2] at h; exact he (by simp [h])
   ·by_cases h3 : v.k = 3
    ·simp [h3] at h; exact h.2
    ·by_cases h4 : v.k = 4
     ·simp [h4] at h; exact he (by simp [h.1])
     ·simp [h0, h1, h2, h3, h4] at h
theorem ask_sound {H : Hp} {f : Nat} {l : List Vl} (hw : askW H f l = sNone) (hn : ∀ x ∈ l, in64 x.n) : ∀ x ∈ l, Sound x := by
 obtain ⟨hk, hall⟩ := ask_args hw
 intro x hx
 obtain ⟨i, hi⟩ := List.getElem?_of_mem hx
 have hil := (List.getElem?_eq_some_iff.1 hi).1
 have hik : i < (kindsP f l.length).length := by omega
 exact ck_sound (hall i _ x (List.getElem?_eq_getElem hik) hi).1 (hn x hx)
theorem RStep.ext {w w1 w2 : World} {g : Nat} {tv : Value} {H : Hp} (h : RStep w g tv w1 H) (he : Ext w1 w2) : RStep w g tv w2 H := let ⟨tv', hs⟩ := h; ⟨tv', hs.ext he⟩
end Go.Proofs.YtfagldjhibdfhaaGreatDoor
