/- Two heaps of the program's at once, the second one left alone. -/
import Derived.Test.YtfagldjhibdfhaaGreatDoorYLvA
import Derived.Test.YtfagldjhibdfhaaGreatDoorYA9
namespace Go.Proofs.YtfagldjhibdfhaaGreatDoor
open Go.RowKit
set_option linter.unusedVariables false
set_option linter.unusedSimpArgs false

structure BK (w0 w : World) (ga gb : Nat) (Ha Hb : Hp) (L : List (Nat × TypeId × Array Value)) : Prop where
 ex : ∃ ta ra tb rb, HeapIn w ga ta ra Ha ∧ HeapIn w gb tb rb Hb ∧ (∀ x, Foot ga ta ra x → w0.heap.size ≤ x) ∧ (∀ x, Foot gb tb rb x → w0.heap.size ≤ x ∧ ¬ Foot ga ta ra x) ∧ ∀ p ∈ L, ¬ Foot ga ta ra p.1 ∧ ¬ Foot gb tb rb p.1
 ext : Ext w0 w
 row : ∀ p ∈ L, w0.heap.size ≤ p.1 ∧ Blk w p.1 p.2.1 p.2.2
section
variable {w0 w w' X : World} {ga gb k : Nat} {Ha Hb : Hp} {L : List (Nat × TypeId × Array Value)} {t : TypeId}
theorem BK.ext' (h : BK w0 w ga gb Ha Hb L) (he : Ext w w') : BK w0 w' ga gb Ha Hb L := by
 obtain ⟨ta, ra, tb, rb, h1, h2, h3, h4, h5⟩ := h.ex
 exact ⟨⟨ta, ra, tb, rb, h1.ext he, h2.ext he, h3, h4, h5⟩, h.ext.trans he, fun p hp => ⟨(h.row p hp).1, (h.row p hp).2.ext he⟩⟩
theorem BK.new (h : BK w0 w ga gb Ha Hb L) (k : Nat) (hk : k = w.heap.size) (t : TypeId) (cs : Array Value) : BK w0 (w.alloc (.cells cs t)) ga gb Ha Hb ((k, t, cs) :: L) := by
 subst hk
 obtain ⟨ta, ra, tb, rb, h1, h2, h3, h4, h5⟩ := h.ex
 have hE := (Ext.refl w).alloc (.cells cs t)
 refine ⟨⟨ta, ra, tb, rb, h1.ext hE, h2.ext hE, h3, h4, fun p hp => ?_⟩, h.ext.trans hE, fun p hp => ?_⟩
 ·rcases List.mem_cons.1 hp with rfl | hp
  ·exact ⟨fun hf => Nat.lt_irrefl _ (h1.low hf), fun hf => Nat.lt_irrefl _ (h2.low hf)⟩
  ·exact h5 p hp
 ·rcases List.mem_cons.1 hp with rfl | hp
  ·exact ⟨h.ext.le, Blk.new _ _ _⟩
  ·exact ⟨(h.row p hp).1, (h.row p hp).2.ext hE⟩
theorem BK.tail {p : Nat × TypeId × Array Value} (h : BK w0 w ga gb Ha Hb (p :: L)) : BK w0 w ga gb Ha Hb L := by
 obtain ⟨ta, ra, tb, rb, h1, h2, h3, h4, h5⟩ := h.ex
 exact ⟨⟨ta, ra, tb, rb, h1, h2, h3, h4, fun p hp => h5 p (List.mem_cons_of_mem _ hp)⟩, h.ext, fun p hp => h.row p (List.mem_cons_of_mem _ hp)⟩
theorem BK.put {x y z : Value} (h : BK w0 w ga gb Ha Hb ((k, t, #[x, y, z]) :: L)) (hd : ∀ p ∈ L, p.1 ≠ k) (a b c : Value) :
  BK w0 (((w.setCell ⟨k, 0, none⟩ a).setCell ⟨k, 1, none⟩ b).setCell ⟨k, 2, none⟩ c) ga gb Ha Hb ((k, t, #[a, b, c]) :: L) := by
 obtain ⟨ta, ra, tb, rb, h1, h2, h3, h4, h5⟩ := h.ex
 have hk := h.row (k, t, #[x, y, z]) (List.mem_cons_self ..)
 have hnk := h5 (k, t, #[x, y, z]) (List.mem_cons_self ..)
 have hfar : ∀ j, j ≠ k → (((w.setCell ⟨k, 0, none⟩ a).setCell ⟨k, 1, none⟩ b).setCell ⟨k, 2, none⟩ c).heap[j]? = w.heap[j]? := fun j hj =>
  (Below.heap_setCell _ _ _ j hj).trans ((Below.heap_setCell _ _ _ j hj).trans (Below.heap_setCell _ _ _ j hj))
 refine ⟨⟨ta, ra, tb, rb, h1.of_heap fun j hj => hfar j ?_, h2.of_heap fun j hj => hfar j ?_, h3, h4, fun p hp => ?_⟩, ((h.ext.setCell (p := ⟨k, 0, none⟩) hk.1 a).setCell (p := ⟨k, 1, none⟩) hk.1 b).setCell (p := ⟨k, 2, none⟩) hk.1 c, fun p hp => ?_⟩
 ·rintro rfl; exact hnk.1 hj
 ·rintro rfl; exact hnk.2 hj
 ·rcases List.mem_cons.1 hp with rfl | hp
  ·exact hnk
  ·exact h5 p (List.mem_cons_of_mem _ hp)
 ·rcases List.mem_cons.1 hp with rfl | hp
  ·exact ⟨hk.1, put3 hk.2 _ _ _⟩
  ·exact ⟨(h.row p (List.mem_cons_of_mem _ hp)).1, (hfar _ (hd p hp)).trans (h.row p (List.mem_cons_of_mem _ hp)).2⟩
theorem BK.of {w1 w2 : World} (hV : VB w0 w L) (hl : ∀ p ∈ L, w0.heap.size ≤ p.1) (ha : NH w w1 ga Ha []) (hb : NH w1 w2 gb Hb []) : BK w0 w2 ga gb Ha Hb L := by
 obtain ⟨ta, ra, h1, h2, _⟩ := ha.ex
 obtain ⟨tb, rb, h3, h4, _⟩ := hb.ex
 have hle := hV.ext.le
 have hle1 := ha.ext.le
 refine ⟨⟨ta, ra, tb, rb, h1.ext hb.ext, h3, fun x hx => Nat.le_trans hle (h2 x hx), fun x hx => ⟨?_, fun hf => ?_⟩, fun p hp => ⟨fun hf => ?_, fun hf => ?_⟩⟩, (hV.ext.trans ha.ext).trans hb.ext, fun p hp => ⟨hl p hp, ((hV.row p hp).ext ha.ext).ext hb.ext⟩⟩
 ·have := h4 x hx; omega
 ·have := h4 x hx
  have := h1.low hf
  omega
 ·have := h2 _ hf
  have := (hV.row p hp).lt
  omega
 ·have := h4 _ hf
  have := (hV.row p hp).lt
  omega
theorem bk_call (h : BK w0 w ga gb Ha Hb L) (hx : Ext w X) (hL : LLaid w0) (hlen : Ha.tabs.length ≤ 1000000000) (name : ByteArray) (f : Nat) (hi : libIdx name = some f) (M : List (Nat × TypeId × Array Value)) (k m cap : Nat) (cs : Array Value) (l : List Vl) (hb : Blk X k 26 cs) (hk : w.heap.size ≤ k)
  (hcs : cs = (flat l).toArray) (hl : l.length = m) (hm : m ≤ 1000) (hs : ∀ x ∈ l, in64 x.n) (hM : ∀ p ∈ M, w.heap.size ≤ p.1 ∧ Blk X p.1 p.2.1 p.2.2) :
  Calls Tryz.prog 15 #[.pointer (some ⟨ga, 0, none⟩), .string name, .slice (some ⟨k, 0, none⟩) m cap] X fun e w' =>
   e = .returned (.tuple #[(callV Ha name l).v, .string (callW Ha name l), .bool (callB name)]) ∧ BK w0 w' ga gb (callH Ha name l) Hb (M ++ L) := by
 subst hl
 obtain ⟨ta, ra, tb, rb, h1, h2, h3, h4, h5⟩ := h.ex
 have hlow : ∀ x, Foot ga ta ra x → x < w.heap.size := fun x hf => h1.low hf
 have hlow2 : ∀ x, Foot gb tb rb x → x < w.heap.size := fun x hf => h2.low hf
 have hle := hx.le
 refine (call_some ga ta ra Ha X (h1.ext hx) (hL.ext (h.ext.trans hx)) hlen name f hi (some ⟨k, 0, none⟩) l cap ⟨by omega, blk_vals hb hcs⟩ (fun hw => ask_sound hw hs) (fun a ha hf => ?_)).mono ?_
 ·have := hlow _ hf
  rw [← Option.some.inj ha] at this
  simp only at this
  omega
 ·rintro e w' ⟨rfl, ta', ra', hst⟩
  refine ⟨rfl, ⟨ta', ra', tb, rb, hst.heap, (h2.ext hx).of_heap fun j hj => hst.touch.block j (Nat.lt_of_lt_of_le (hlow2 j hj) hle) (h4 j hj).2, fun x hf => ?_, fun x hf => ⟨(h4 x hf).1, hst.notin (Nat.lt_of_lt_of_le (hlow2 x hf) hle) (h4 x hf).2⟩, fun p hp => ?_⟩, hst.touch.to_ext (h.ext.trans hx) h3, fun p hp => ?_⟩
  ·rcases hst.foot x hf with hf | hf
   ·exact h3 x hf
   ·exact Nat.le_trans (h.ext.trans hx).le hf
  ·rcases List.mem_append.1 hp with hp | hp
   ·obtain ⟨q1, q2⟩ := hM p hp
    refine ⟨hst.notin q2.lt fun hf => ?_, fun hf => ?_⟩
    ·have := hlow _ hf; omega
    ·have := hlow2 _ hf; omega
   ·have q := (h.row p hp).2.lt
    exact ⟨hst.notin (Nat.lt_of_lt_of_le q hle) (h5 p hp).1, (h5 p hp).2⟩
  ·rcases List.mem_append.1 hp with hp | hp
   ·obtain ⟨q1, q2⟩ := hM p hp
    refine ⟨Nat.le_trans h.ext.le q1, (hst.touch.block _ q2.lt fun hf => ?_).trans q2⟩
    have := hlow _ hf; omega
   ·have q := (h.row p hp).2.ext hx
    exact ⟨(h.row p hp).1, (hst.touch.block _ q.lt (h5 p hp).1).trans q⟩
theorem bk_lenA (h : BK w0 w ga gb Ha Hb L) (hlen : Ha.tabs.length ≤ 1000000000) (v : Vl) :
  Calls Tryz.prog 27 #[.pointer (some ⟨ga, 0, none⟩), v.v] w fun e w' => e = .returned (.tuple #[.int .i64 (lenV Ha v), .string (lenW Ha v)]) ∧ Ext w w' := by
 obtain ⟨ta, ra, tb, rb, h1, h2, h3, h4, h5⟩ := h.ex
 exact len_any ga ta ra Ha v w h1 (by omega)
theorem bk_lenB (h : BK w0 w ga gb Ha Hb L) (hlen : Hb.tabs.length ≤ 1000000000) (v : Vl) :
  Calls Tryz.prog 27 #[.pointer (some ⟨gb, 0, none⟩), v.v] w fun e w' => e = .returned (.tuple #[.int .i64 (lenV Hb v), .string (lenW Hb v)]) ∧ Ext w w' := by
 obtain ⟨ta, ra, tb, rb, h1, h2, h3, h4, h5⟩ := h.ex
 exact len_any gb tb rb Hb v w h2 (by omega)
theorem bk_keysA (h : BK w0 w ga gb Ha Hb L) (hlen : Ha.tabs.length ≤ 1000000000) (v : Vl) :
  Calls Tryz.prog 28 #[.pointer (some ⟨ga, 0, none⟩), v.v] w fun e w' => ∃ q c, e = .returned (.tuple #[.slice q (keysV Ha v).length c, .string (ofW Ha v)]) ∧ ValsAt w' q (keysV Ha v) ∧ Ext w w' := by
 obtain ⟨ta, ra, tb, rb, h1, h2, h3, h4, h5⟩ := h.ex
 refine (keys_any ga ta ra Ha v w h1 (by omega)).mono ?_
 rintro e w' ⟨x, rfl, hr, he⟩
 obtain ⟨q, c, rfl, hv, _⟩ := hr.any
 exact ⟨q, c, rfl, hv, he⟩
theorem bk_keysB (h : BK w0 w ga gb Ha Hb L) (hlen : Hb.tabs.length ≤ 1000000000) (v : Vl) :
  Calls Tryz.prog 28 #[.pointer (some ⟨gb, 0, none⟩), v.v] w fun e w' => ∃ q c, e = .returned (.tuple #[.slice q (keysV Hb v).length c, .string (ofW Hb v)]) ∧ ValsAt w' q (keysV Hb v) ∧ Ext w w' := by
 obtain ⟨ta, ra, tb, rb, h1, h2, h3, h4, h5⟩ := h.ex
 refine (keys_any gb tb rb Hb v w h2 (by omega)).mono ?_
 rintro e w' ⟨x, rfl, hr, he⟩
 obtain ⟨q, c, rfl, hv, _⟩ := hr.any
 exact ⟨q, c, rfl, hv, he⟩
theorem bk_alike (h : BK w0 w ga gb Ha Hb L) (hla : Ha.tabs.length ≤ 1000000000) (hlb : Hb.tabs.length ≤ 1000000000) (v : Vl) (qk ql : Option Addr) (ck cl : Nat) (ks : List Vl) (hk : ValsAt w qk ks) (hl : ValsAt w ql ks) (hlen : ks.length ≤ 65536) (hn : ∀ k ∈ ks, in64 k.n) (hs : ∀ k ∈ ks, getV Ha v k = getV Hb v k) :
  Calls Tryz.prog 30 #[.pointer (some ⟨ga, 0, none⟩), .pointer (some ⟨gb, 0, none⟩), v.v, .slice qk ks.length ck, .slice ql ks.length cl] w fun e w' => e = .returned (.bool true) ∧ Ext w w' := by
 obtain ⟨ta, ra, tb, rb, h1, h2, h3, h4, h5⟩ := h.ex
 exact alike_any w ga gb ta tb ra rb Ha Hb v qk ql ck cl ks h1 h2 hla hlb hk hl hlen hn hs
theorem keys_num {H : Hp} (h : HOk H) (t : Vl) : ∀ k ∈ keysV H t, in64 k.n := fun k hk => by
 unfold keysV at hk
 by_cases hn : ofW H t = sNone
 ·rw [if_pos hn] at hk
  exact (keysL_ok (tabOf_ok h (ofW_none hn).2.2.2.2) k hk).num
 ·rw [if_neg hn] at hk
  exact (List.not_mem_nil hk).elim
theorem keys_few {H : Hp} (h : HOk H) (t : Vl) : (keysV H t).length ≤ 65536 := by
 unfold keysV
 by_cases hn : ofW H t = sNone
 ·rw [if_pos hn]
  have hT := tabOf_ok h (ofW_none hn).2.2.2.2
  rw [keysL_len hT]
  exact hT.most
 ·rw [if_neg hn]; exact Nat.zero_le _
theorem BK.okB (h : BK w0 w ga gb Ha Hb L) : HOk Hb := by
 obtain ⟨ta, ra, tb, rb, h1, h2, h3, h4, h5⟩ := h.ex
 exact h2.ok
end
theorem lenW4 {H : Hp} {t : Vl} (h4 : t.k = 4) (hw : lenW H t = sNone) : ofW H t = sNone := by
 unfold lenW at hw
 rw [h4] at hw
 simpa using hw
theorem askRem {H : Hp} {t : Vl} {p : Int} (h : ofW H t = sNone) : askW H 7 [t, iK p] = sNone := by
 obtain ⟨h1, h2, _⟩ := ofW_none h
 have hk : askW H 7 [t, iK p] = askL H [98, 110] [t, iK p] := rfl
 have b1 : kindBad 98 t = false := by simp [kindBad, h1, h2]
 have b2 : kindBad 110 (iK p) = false := by unfold kindBad; rw [ck_iK]; rfl
 have hw : lenW H t = sNone := by unfold lenW; rw [h2]; simpa using h
 have h3 : ¬ (iK p).k = 4 := by show ¬ (2 : Int) = 4; decide
 rw [hk]
 unfold askL
 rw [b1, if_neg (by decide), if_pos h2, if_pos hw]
 unfold askL
 rw [b2, if_neg (by decide), if_neg h3]
 rfl
theorem rem_call {H : Hp} {t : Vl} {p : Int} (h : ofW H t = sNone) (hw : (removeR H t (some p)).w = sNone) :
  callW H ⟨#[114, 101, 109, 111, 118, 101]⟩ [t, iK p] = sNone ∧ callV H ⟨#[114, 101, 109, 111, 118, 101]⟩ [t, iK p] = (removeR H t (some p)).v ∧ callH H ⟨#[114, 101, 109, 111, 118, 101]⟩ [t, iK p] = (removeR H t (some p)).H := by
 have hi : libIdx ⟨#[114, 101, 109, 111, 118, 101]⟩ = some 7 := by kernel_rfl
 have hc : callR H ⟨#[114, 101, 109, 111, 118, 101]⟩ [t, iK p] = some (removeR H t (some p)) := by
  unfold callR
  rw [hi]
  simp only [Option.map_some]
  rw [if_pos (askRem h)]
  rfl
 unfold callW callV callH
 rw [hc]
 simp only
 rw [if_pos hw]
 exact ⟨hw, by first | rfl | trivial, by first | rfl | trivial⟩
theorem ins_call {H : Hp} {t v : Vl} {p : Int} (h : callW H ⟨#[105, 110, 115, 101, 114, 116]⟩ [t, iK p, v] = sNone) :
  ofW H t = sNone ∧ (insertR H t p v).w = sNone ∧ callH H ⟨#[105, 110, 115, 101, 114, 116]⟩ [t, iK p, v] = (insertR H t p v).H := by
 have hi : libIdx ⟨#[105, 110, 115, 101, 114, 116]⟩ = some 4 := by kernel_rfl
 unfold callW callH callR at *
 rw [hi] at h ⊢
 simp only [Option.map_some] at h ⊢
 by_cases ha : askW H 4 [t, iK p, v] = sNone
 ·rw [if_pos ha] at h ⊢
  have hd : doR H 4 [t, iK p, v] = insertR H t p v := rfl
  rw [hd] at h ⊢
  refine ⟨?_, h, rfl⟩
  have hk : askW H 4 [t, iK p, v] = askL H [98, 110, 118] [t, iK p, v] := rfl
  rw [hk] at ha
  unfold askL at ha
  by_cases hb : kindBad 98 t = true
  ·rw [if_pos hb] at ha
   exact absurd ha (by decide)
  ·rw [if_neg hb] at ha
   have hb' : kindBad 98 t = false := by simpa using hb
   have h4 : t.k = 4 := by
    unfold kindBad at hb'
    simp at hb'
    exact hb'.2
   rw [if_pos h4] at ha
   by_cases hw : lenW H t = sNone
   ·refine lenW4 h4 hw
   ·rw [if_neg hw] at ha
    exact absurd ha hw
 ·rw [if_neg ha] at h
  exact absurd h ha
end Go.Proofs.YtfagldjhibdfhaaGreatDoor
