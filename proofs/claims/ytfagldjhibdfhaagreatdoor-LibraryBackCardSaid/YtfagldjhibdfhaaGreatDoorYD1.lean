/- The document's heap behind a deed. A value is put under a key, by the document's heap. -/
import Derived.Test.YtfagldjhibdfhaaGreatDoorYA6
namespace Go.Proofs.YtfagldjhibdfhaaGreatDoor
open Go.RowKit
set_option linter.unusedVariables false
set_option linter.unusedSimpArgs false

section
variable {w w' : World} {g : Nat} {tv : Value} {R : Hp}
theorem RHeapIn.hrow (h : RHeapIn w g tv R) : tv.ownBlock ≠ some g := by
 intro e
 have h1 := h.head
 obtain ⟨rows, ⟨hl, hrow⟩, _⟩ := h.rows
 rcases hrow with ⟨h2, _⟩ | ⟨gb, cap, cur, e1, hb, hc, h2⟩
 ·rw [h2] at e; simp [Value.ownBlock] at e
 ·rw [e1] at e
  obtain rfl : gb = g := Option.some.inj e
  unfold RB Blk at h1
  rw [hc] at h1
  have := Option.some.inj h1
  injection this with _ h3
  exact absurd h3 (by decide)
theorem RHeapIn.only (h : RHeapIn w g tv R) (ho : Only g w w') (c s : Int) (hb : RB w' g tv c s) (hs : 0 ≤ s) (hc : s ≤ c) (hm : c ≤ 9223372036854775807) : RHeapIn w' g tv ⟨R.tabs, c, s⟩ := by
 have hrow0 := h.hrow
 have hgl := h.head
 obtain ⟨rows, ⟨hl, hrow⟩, h2, h3⟩ := h.rows
 have keep : ∀ k, k < w.heap.size → k ≠ g → w'.heap[k]? = w.heap[k]? := fun k hk hn => ho.block k hk (fun e => hn (Option.some.inj e))
 have rowk : ∀ (v : Value) (l : List Vl), RowAt w v l → RowAt w' v l := fun v l hr => hr.of_heap fun k hk => by
  obtain ⟨hlt, cs, hc'⟩ := hr.lt k hk
  refine keep k hlt ?_
  rintro rfl
  unfold RB Blk at hgl
  rw [hc'] at hgl
  have := Option.some.inj hgl
  injection this with _ h3
  exact absurd h3 (by decide)
 refine ⟨hb, ⟨rows, ⟨hl, ?_⟩, h2, fun i r T hr hT => ?_⟩, ⟨h.ok.tab, hs, hc, hm⟩⟩
 ·rcases hrow with h1 | ⟨gb, cap, cur, e1, hb', hc', hq⟩
  ·exact .inl h1
  ·refine .inr ⟨gb, cap, cur, e1, hb', (keep gb (lt_of_block hc') ?_).trans hc', hq⟩
   rintro rfl
   exact hrow0 (by rw [e1]; rfl)
 ·obtain ⟨L, l1, l2, l3⟩ := h3 i r T hr hT
  exact ⟨L, l1, rowk _ _ l2, rowk _ _ l3⟩
end
end Go.Proofs.YtfagldjhibdfhaaGreatDoor
namespace Go.Proofs.YtfagldjhibdfhaaGreatDoor
open Go.RowKit
set_option linter.unusedVariables false
set_option linter.unusedSimpArgs false

theorem RowAt.only {w w' : World} {g : Nat} {tv v : Value} {c s : Int} {l : List Vl} (h : RowAt w v l) (hb : RB w g tv c s) (ho : Only g w w') : RowAt w' v l := h.of_heap fun k hk => by
 obtain ⟨hlt, cs, hc⟩ := h.lt k hk
 refine ho.block k hlt (fun e => ?_)
 obtain rfl := Option.some.inj e
 unfold RB Blk at hb
 rw [hc] at hb
 injection Option.some.inj hb with _ e
 exact absurd e (by decide)
end Go.Proofs.YtfagldjhibdfhaaGreatDoor
