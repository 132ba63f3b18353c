/- The document's made, char. A text's bytes appended; the document's rep. The document's Number: the plain part. The document's Number. A block of zeros may be written: no row of a table lies in it. The document's Number of a text with a sign; of any text; tonumber. The document's tonumber. -/
import Derived.Test.YtfagldjhibdfhaaGreatDoorYD7
import Derived.Lib.ConvBytes
namespace Go.Proofs.YtfagldjhibdfhaaGreatDoor
open Go.RowKit
set_option linter.unusedVariables false
set_option linter.unusedSimpArgs false

structure ROnly (w : World) (g : Nat) (tv : Value) (w' : World) (c s : Int) : Prop where
 only : Only g w w'
 rb : RB w' g tv c s
theorem ROnly.ext {w w1 w2 : World} {g : Nat} {tv : Value} {c s : Int} (h : ROnly w g tv w1 c s) (he : Ext w1 w2) : ROnly w g tv w2 c s := ⟨h.only.ext he, h.rb.ext he⟩
theorem ROnly.pre {w w1 w2 : World} {g : Nat} {tv : Value} {c s : Int} (he : Ext w w1) (h : ROnly w1 g tv w2 c s) : ROnly w g tv w2 c s := ⟨(Only.of_ext he).trans h.only, h.rb⟩
theorem ROnly.setCell {w w1 : World} {g : Nat} {tv : Value} {c s : Int} (h : ROnly w g tv w1 c s) (hg : g < w.heap.size) {p : Addr} (hp : w.heap.size ≤ p.block) (u : Value) : ROnly w g tv (w1.setCell p u) c s :=
 ⟨h.only.setCell (.inr hp) u, h.rb.far (by omega) u⟩
theorem ROnly.set3 {w w1 : World} {g k : Nat} {tv : Value} {c s : Int} (h : ROnly w g tv w1 c s) (hg : g < w.heap.size) (hp : w.heap.size ≤ k) (u0 u1 u2 : Value) : ROnly w g tv (((w1.setCell ⟨k, 0, none⟩ u0).setCell ⟨k, 1, none⟩ u1).setCell ⟨k, 2, none⟩ u2) c s :=
 ((h.setCell hg (p := ⟨k, 0, none⟩) hp u0).setCell hg (p := ⟨k, 1, none⟩) hp u1).setCell hg (p := ⟨k, 2, none⟩) hp u2
theorem ROnly.rs {w w' : World} {g : Nat} {tv : Value} {H : Hp} {s : ByteArray} (h : RHeapIn w g tv H) (a : ROnly w g tv w' H.cells (mkC H.cells H.spent s)) : RS w g tv w' tv (mkR H s).H :=
 ⟨h.only a.only _ _ a.rb (mkC_le h.ok.le h.ok.low).1 (mkC_le h.ok.le h.ok.low).2 h.ok.most, .only a.only (.inl rfl), fun _ hx => .inl hx⟩
def MadeE (w : World) (g : Nat) (tv : Value) (H : Hp) (s : ByteArray) (e : Ending) (w' : World) : Prop :=
 e = .returned (.tuple #[(mkR H s).v.v, .string (mkR H s).w]) ∧ ROnly w g tv w' H.cells (mkC H.cells H.spent s)
theorem MadeE.rd {w w' : World} {g : Nat} {tv : Value} {H : Hp} {s : ByteArray} {e : Ending} (h : RHeapIn w g tv H) (a : MadeE w g tv H s e w') : RdE w g tv (mkR H s) e w' :=
 ⟨by rw [mkR_zero]; exact a.1, (a.2.rs h).step⟩
theorem MadeE.pre {w w1 w' : World} {g : Nat} {tv : Value} {H : Hp} {s : ByteArray} {e : Ending} (he : Ext w w1) (a : MadeE w1 g tv H s e w') : MadeE w g tv H s e w' := ⟨a.1, .pre he a.2⟩
theorem RdE.no {w w' : World} {g : Nat} {tv : Value} {H : Hp} {why : ByteArray} (h : RHeapIn w g tv H) (hn : ¬ why = sNone) (he : Ext w w') : RdE w g tv (Rs.no H why) (.returned (.tuple #[Vl.zero.v, .string why])) w' :=
 ⟨by show _ = Ending.returned (.tuple #[(if why = sNone then _ else _ : Vl).v, .string why]); rw [if_neg hn], (RS.of_ext h he).step⟩
end Go.Proofs.YtfagldjhibdfhaaGreatDoor
namespace Go.Proofs.YtfagldjhibdfhaaGreatDoor
open Go.RowKit
set_option linter.unusedVariables false
set_option linter.unusedSimpArgs false

end Go.Proofs.YtfagldjhibdfhaaGreatDoor
namespace Go.Proofs.YtfagldjhibdfhaaGreatDoor
open Go.RowKit
set_option linter.unusedVariables false
set_option linter.unusedSimpArgs false

end Go.Proofs.YtfagldjhibdfhaaGreatDoor
namespace Go.Proofs.YtfagldjhibdfhaaGreatDoor
open Go.RowKit
set_option linter.unusedVariables false
set_option linter.unusedSimpArgs false

end Go.Proofs.YtfagldjhibdfhaaGreatDoor
namespace Go.Proofs.YtfagldjhibdfhaaGreatDoor
open Go.RowKit
set_option linter.unusedVariables false
set_option linter.unusedSimpArgs false

abbrev zcells : Array Value := #[.int .i64 0, .int .i64 0, .string ⟨#[]⟩]
theorem RowAt.zeroed {w w' : World} {v : Value} {l : List Vl} {B : Nat} {u0 u1 u2 : Value} (h : RowAt w v l) (hl : ∀ x ∈ l, ¬ x.k = 0) (hz : Blk w B 26 zcells) (hB : Blk w' B 26 #[u0, u1, u2])
  (he : ∀ k, k ≠ B → k < w.heap.size → w'.heap[k]? = w.heap[k]?) : RowAt w' v l := by
 obtain ⟨hn, hrow⟩ := h
 refine ⟨hn, ?_⟩
 rcases hrow with h1 | ⟨gb, cap, cur, e1, hb, hc, h2, h3, h4, h5⟩
 ·exact .inl h1
 ·by_cases hg : gb = B
  ·subst hg
   unfold Blk at hz
   rw [hz] at hc
   have hcur : zcells = cur := by injection Option.some.inj hc
   subst hcur
   have h4' : 3 = cap * 3 := h4
   have hcap : cap = 1 := by omega
   subst hcap
   cases l with
   | nil => exact .inr ⟨gb, 1, _, e1, hb, hB, h2, h3, rfl, by simp [flat]⟩
   | cons x r =>
    exfalso
    have hr : r = [] := by
     cases r with
     | nil => rfl
     | cons y s => simp at h2
    subst hr
    have h6 := congrArg (fun z : List Value => z[0]?) h5
    simp [flat, vcells] at h6
    exact hl x (by simp) h6.symm
  ·exact .inr ⟨gb, cap, cur, e1, hb, (he gb hg (lt_of_block hc)).trans hc, h2, h3, h4, h5⟩
theorem TRow.some {L T : Tb} (h : TRow L T) (hT : TbOk T) : ∀ x ∈ L, ¬ x.1.k = 0 ∧ ¬ x.2.k = 0 := by
 rintro ⟨k, v⟩ hx
 have h1 := mget_of_mem h.once hx
 rw [← h.get] at h1
 have h2 : (k, v) ∈ T := by
  have : ∀ (m : Tb), mget m k = Option.some v → (k, v) ∈ m := by
   intro m
   induction m with
   | nil => intro e; simp [mget] at e
   | cons y m ih =>
    intro e
    obtain ⟨a, b⟩ := y
    unfold mget at e
    split at e
    ·rename_i hk
     first
      | (obtain rfl := Option.some.inj e; subst hk; simp)
      | (obtain rfl := Option.some.inj e; simp [hk])
    ·exact List.mem_cons_of_mem _ (ih e)
  exact this T h1
 refine ⟨?_, (hT.val _ h2).some⟩
 have := (hT.key _ h2).kind
 simp only at this ⊢
 omega
theorem RHeapIn.zeroed {w w' : World} {g B : Nat} {tv : Value} {R : Hp} {u0 u1 u2 : Value} (h : RHeapIn w g tv R) (hz : Blk w B 26 zcells) (hB : Blk w' B 26 #[u0, u1, u2])
  (he : ∀ k, k ≠ B → k < w.heap.size → w'.heap[k]? = w.heap[k]?) : RHeapIn w' g tv R := by
 have hgB : g ≠ B := by
  rintro rfl
  have := h.head
  unfold RB Blk at this
  unfold Blk at hz
  rw [this] at hz
  injection Option.some.inj hz with _ e
  exact absurd e (by decide)
 obtain ⟨rows, ⟨hl, hrow⟩, h2, h3⟩ := h.rows
 refine ⟨(he g hgB (lt_of_block h.head)).trans h.head, ⟨rows, ⟨hl, ?_⟩, h2, fun i r T hr hT => ?_⟩, h.ok⟩
 ·rcases hrow with h1 | ⟨gb, cap, cur, e1, hb, hc, hq⟩
  ·exact .inl h1
  ·refine .inr ⟨gb, cap, cur, e1, hb, (he gb ?_ (lt_of_block hc)).trans hc, hq⟩
   rintro rfl
   unfold Blk at hz
   rw [hc] at hz
   injection Option.some.inj hz with _ e
   exact absurd e (by decide)
 ·obtain ⟨L, l1, l2, l3⟩ := h3 i r T hr hT
  have hs := l1.some (h.ok.tab T (List.mem_of_getElem? hT))
  refine ⟨L, l1, l2.zeroed (fun x hx => ?_) hz hB he, l3.zeroed (fun x hx => ?_) hz hB he⟩
  ·obtain ⟨y, hy, rfl⟩ := List.mem_map.1 hx
   exact (hs y hy).1
  ·obtain ⟨y, hy, rfl⟩ := List.mem_map.1 hx
   exact (hs y hy).2
theorem RS.zeroed {w w1 : World} {g B : Nat} {tv tv1 : Value} {H1 : Hp} (a : RS w g tv w1 tv1 H1) (hz : Blk w1 B 26 zcells) (hn : w.heap.size ≤ B) (u0 u1 u2 : Value) :
  RS w g tv (((w1.setCell ⟨B, 0, none⟩ u0).setCell ⟨B, 1, none⟩ u1).setCell ⟨B, 2, none⟩ u2) tv1 H1 := by
 have hB := ((hz.set_ 0 u0).set_ 1 u1).set_ 2 u2
 have he : ∀ k, k ≠ B → (((w1.setCell ⟨B, 0, none⟩ u0).setCell ⟨B, 1, none⟩ u1).setCell ⟨B, 2, none⟩ u2).heap[k]? = w1.heap[k]? := fun k hk =>
  (Below.heap_setCell _ _ _ k hk).trans ((Below.heap_setCell _ _ _ k hk).trans (Below.heap_setCell _ _ _ k hk))
 exact ⟨a.heap.zeroed hz hB fun k hk _ => he k hk, ⟨a.touch.os, a.touch.tape, a.touch.output, by simpa [World.setCell] using a.touch.size, fun k hk h => (he k (by omega)).trans (a.touch.block k hk h)⟩, a.foot⟩
end Go.Proofs.YtfagldjhibdfhaaGreatDoor
namespace Go.Proofs.YtfagldjhibdfhaaGreatDoor
open Go.RowKit
set_option linter.unusedVariables false
set_option linter.unusedSimpArgs false

end Go.Proofs.YtfagldjhibdfhaaGreatDoor
namespace Go.Proofs.YtfagldjhibdfhaaGreatDoor
open Go.RowKit
set_option linter.unusedVariables false
set_option linter.unusedSimpArgs false

end Go.Proofs.YtfagldjhibdfhaaGreatDoor
