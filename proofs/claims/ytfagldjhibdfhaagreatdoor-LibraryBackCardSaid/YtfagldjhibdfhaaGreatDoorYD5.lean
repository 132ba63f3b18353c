/- A table is made, by the document's heap. A value is put under a key, by the document's heap: all ways. -/
import Derived.Test.YtfagldjhibdfhaaGreatDoorYD1
import Derived.Test.YtfagldjhibdfhaaGreatDoorYD2
import Derived.Test.YtfagldjhibdfhaaGreatDoorYD3
import Derived.Test.YtfagldjhibdfhaaGreatDoorYD4
namespace Go.Proofs.YtfagldjhibdfhaaGreatDoor
open Go.RowKit
set_option linter.unusedVariables false
set_option linter.unusedSimpArgs false

abbrev rtabW (w : World) : World := w.alloc (.cells #[.slice none 0 0, .slice none 0 0] 153)
section
variable {w w' : World} {g : Nat} {tv tv' : Value} {H : Hp}
theorem RHeapIn.table (h : RHeapIn w g tv H) (rows : List (Value × Value)) (hr2 : rows.length = H.tabs.length) (hr3 : ∀ (i : Nat) (r : Value × Value) (T : Tb), rows[i]? = some r → H.tabs[i]? = some T → RTbAt w r T)
  (hrow : w'.ownsRow 0 153 2 tv' (H.tabs.length + 1) (rrowOf (rows ++ [(.slice none 0 0, .slice none 0 0)]))) (hg : (rtabW w).grownBy w' tv.ownBlock)
  (hv : tv'.ownBlock = tv.ownBlock ∨ tv'.ownBlock = some (w.heap.size + 1)) :
  RHeapIn (w'.setCell ⟨g, 0, none⟩ tv') g tv' ⟨H.tabs ++ [[]], H.cells, H.spent⟩ ∧ Touch (RFoot g tv) w (w'.setCell ⟨g, 0, none⟩ tv') ∧ (∀ x, RFoot g tv' x → RFoot g tv x ∨ w.heap.size ≤ x) := by
 have hgl := h.head.lt
 have hE : Ext w (rtabW w) := (Ext.refl w).alloc _
 have hsz : (rtabW w).heap.size = w.heap.size + 1 := size_alloc _ _
 have hT : Touch (RFoot g tv) w w' := (Touch.of_ext hE).grown hg fun x hx => .inr hx
 have hb : RB w' g tv H.cells H.spent := (hg.block g (by rw [hsz]; omega) (fun e => h.hrow e.symm)).trans ((hE.block g hgl).trans h.head)
 have hrow0 : ∀ k cs, w.heap[k]? = some (.cells cs 26 (0, 0)) → tv.ownBlock ≠ some k := fun k cs hc e => by
  rcases h.sort (.inr e) with ⟨cs', hc'⟩ | ⟨cs', hc'⟩ <;> (rw [hc] at hc'; injection Option.some.inj hc' with _ e; exact absurd e (by decide))
 refine ⟨⟨hb.set_ 0 tv', ⟨rows ++ [(.slice none 0 0, .slice none 0 0)], ?_, by simp [hr2], fun i r T hr hT => ?_⟩, fun T hT => ?_, h.ok.low, h.ok.le, h.ok.most⟩, hT.setg (.inl rfl) _, ?_⟩
 ·show (w'.setCell ⟨g, 0, none⟩ tv').ownsRow _ _ _ _ (H.tabs ++ [[]]).length _
  rw [List.length_append]
  obtain ⟨hl, hrow⟩ := hrow
  refine ⟨hl, ?_⟩
  rcases hrow with h1 | ⟨gb, cap, cur, e1, hb', hc, h2⟩
  ·exact .inl h1
  ·refine .inr ⟨gb, cap, cur, e1, hb', (Below.heap_setCell w' _ tv' gb ?_).trans hc, h2⟩
   rintro rfl
   unfold RB Blk at hb
   rw [hc] at hb
   have := Option.some.inj hb
   injection this with _ h3
   exact absurd h3 (by decide)
 ·have rowk : ∀ (v : Value) (l : List Vl), RowAt w v l → RowAt (w'.setCell ⟨g, 0, none⟩ tv') v l := fun v l hr => hr.of_heap fun k hk => by
   obtain ⟨hlt, cs, hc⟩ := hr.lt k hk
   refine (Below.heap_setCell w' _ tv' k ?_).trans ((hg.block k (by rw [hsz]; omega) (fun e => hrow0 k cs hc e.symm)).trans (hE.block k hlt))
   rintro rfl
   have := h.head
   unfold RB Blk at this
   rw [hc] at this
   injection Option.some.inj this with _ e
   exact absurd e (by decide)
  rcases Nat.lt_or_ge i rows.length with hi | hi
  ·rw [List.getElem?_append_left hi] at hr
   have hT' : H.tabs[i]? = some T := by
    have hi' : i < H.tabs.length := by rw [← hr2]; exact hi
    have : (H.tabs ++ [[]])[i]? = some T := hT
    rwa [List.getElem?_append_left hi'] at this
   obtain ⟨L, l1, l2, l3⟩ := hr3 i r T hr hT'
   exact ⟨L, l1, rowk _ _ l2, rowk _ _ l3⟩
  ·have e2 : (H.tabs ++ [[]])[i]? = some T := hT
   rw [List.getElem?_append_right hi] at hr
   rw [List.getElem?_append_right (by rw [← hr2]; exact hi)] at e2
   have hi0 : i - rows.length = 0 := by
    rcases Nat.eq_zero_or_pos (i - rows.length) with h0 | h0
    ·exact h0
    ·rw [List.getElem?_eq_none (by simp; omega)] at hr; cases hr
   rw [hi0] at hr
   rw [← hr2, hi0] at e2
   simp at hr e2
   subst hr
   subst e2
   exact ⟨[], TRow.nil, RowAt.nil _, RowAt.nil _⟩
 ·rcases List.mem_append.1 hT with hT | hT
  ·exact h.ok.tab T hT
  ·rw [List.mem_singleton] at hT; subst hT; exact tbOk_nil
 ·rintro x (rfl | hx)
  ·exact .inl (.inl rfl)
  ·rcases hv with hv | hv
   ·exact .inl (.inr (by rw [← hv]; exact hx))
   ·rw [hv] at hx
    have := Option.some.inj hx
    exact .inr (by omega)
end
end Go.Proofs.YtfagldjhibdfhaaGreatDoor
namespace Go.Proofs.YtfagldjhibdfhaaGreatDoor
open Go.RowKit
set_option linter.unusedVariables false
set_option linter.unusedSimpArgs false

end Go.Proofs.YtfagldjhibdfhaaGreatDoor
