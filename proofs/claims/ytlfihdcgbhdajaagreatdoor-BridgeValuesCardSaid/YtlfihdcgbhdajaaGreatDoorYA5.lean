/- A reply that is laid: what lies where; how it goes on. A reply that is laid: more than the bounds let by. Replies of each kind: when they may be laid, and their bytes. -/
import Derived.Test.YtlfihdcgbhdajaaGreatDoorYA4
import Derived.Test.YtlfihdcgbhdajaaGreatDoorYA3
import Derived.Lib.Strings
namespace Go.Proofs.YtlfihdcgbhdajaaGreatDoor
open Go.RowKit
set_option linter.unusedVariables false
set_option linter.unusedSimpArgs false

def KeepL (w w' : World) : Prop := ∀ i t cs, Blk w i t cs → t ≠ 124 → t ≠ 5 → t ≠ 3 → Blk w' i t cs
theorem KeepL.refl (w : World) : KeepL w w := fun _ _ _ h _ _ _ => h
theorem KeepL.trans {a b c : World} (h : KeepL a b) (k : KeepL b c) : KeepL a c := fun i t cs x h1 h2 h3 => k i t cs (h i t cs x h1 h2 h3) h1 h2 h3
theorem KeepL.ext {a b : World} (h : Ext a b) : KeepL a b := fun i t cs x _ _ _ => x.ext h
theorem KeepL.keep {a b : World} (h : Keep a b) : KeepL a b := fun i t cs x h1 h2 _ => h i t cs x h1 h2
theorem KeepL.set {a b : World} {g : Nat} {cs : Array Value} (h : KeepL a b) (hg : Blk b g 3 cs) (i : Nat) (u : Value) : KeepL a (b.setCell ⟨g, i, none⟩ u) := fun j t cs' x h1 h2 h3 => by
 have hx := h j t cs' x h1 h2 h3
 refine hx.far (p := ⟨g, i, none⟩) ?_ u
 show j ≠ g
 rintro rfl
 unfold Blk at hx hg
 rw [hg] at hx
 have e : (3 : TypeId) = t := by injection hx with hx; injection hx
 exact h3 e.symm
structure EncAt (w : World) (B tb ib bb fb : Nat) (T I : Nat) (l : List UInt8) : Prop where
 bld : BldAt B bb l w
 t : Blk w tb 3 #[.int .i64 (T : Int)]
 i : Blk w ib 3 #[.int .i64 (I : Int)]
 f : Blk w fb 125 #[.func (.func 75) #[] #[.pointer (some ⟨tb, 0, none⟩), .pointer (some ⟨ib, 0, none⟩), .pointer (some ⟨bb, 0, none⟩), .pointer (some ⟨fb, 0, none⟩)]]
 hb : B ≤ tb ∧ B ≤ ib ∧ B ≤ bb ∧ B ≤ fb ∧ tb ≠ ib
 base : B ≤ w.heap.size
 pow : Pow w ∧ (1 : Nat) < B
theorem Blk.builder {w : World} {B b : Nat} {l : List UInt8} (h : BldAt B b l w) : ∃ cs, Blk w b 124 cs := by
 rcases h with ⟨_, v, hb, _⟩ | ⟨_, v, hb, _⟩ <;> exact ⟨_, hb⟩
theorem Blk.kinds {w : World} {g g' : Nat} {t t' : TypeId} {cs cs' : Array Value} (h : Blk w g t cs) (h' : Blk w g' t' cs') (ht : t ≠ t') : g ≠ g' := by
 rintro rfl
 unfold Blk at h h'
 rw [h] at h'
 have e : t = t' := by injection h' with h'; injection h'
 exact ht e
theorem EncAt.ext {w w' : World} {B tb ib bb fb T I : Nat} {l : List UInt8} (h : EncAt w B tb ib bb fb T I l) (he : Ext w w') : EncAt w' B tb ib bb fb T I l :=
 ⟨h.bld.ext he, h.t.ext he, h.i.ext he, h.f.ext he, h.hb, Nat.le_trans h.base he.le, h.pow.1.ext he, h.pow.2⟩
theorem Pow.below {w w' : World} {B : Nat} (h : Pow w) (he : Below B w w') (hg : (1 : Nat) < B) : Pow w' := h.of_same (he.block _ hg)
theorem bld_far {B b : Nat} {l : List UInt8} {w : World} {g : Nat} {cs : Array Value} (h : BldAt B b l w) (hg : Blk w g 3 cs) (i : Nat) (u : Value) : BldAt B b l (w.setCell ⟨g, i, none⟩ u) := by
 have key : ∀ p, Lib.BuilderAt 124 5 B b p (Lib.byteCells l) w → Lib.BuilderAt 124 5 B b p (Lib.byteCells l) (w.setCell ⟨g, i, none⟩ u) := by
  rintro p ⟨hB, v, hb, ⟨hl, ho⟩, hn⟩
  have hne : b ≠ g := Blk.kinds (show Blk w b 124 _ from hb) hg (by decide)
  refine ⟨hB, v, (Below.heap_setCell w ⟨g, i, none⟩ u b hne).trans hb, ⟨hl, ?_⟩, hn⟩
  rcases ho with ho | ⟨g', cap, cur, e, hb', hh, h2⟩
  ·exact .inl ho
  ·have hne' : g' ≠ g := Blk.kinds (show Blk w g' 5 cur from hh) hg (by decide)
   exact .inr ⟨g', cap, cur, e, hb', (Below.heap_setCell w ⟨g, i, none⟩ u g' hne').trans hh, h2⟩
 exact h.imp (key _) (key _)
theorem EncAt.sub {w : World} {B tb ib bb fb T I T' I' : Nat} {l : List UInt8} (h : EncAt w B tb ib bb fb T I l) :
  EncAt ((w.setCell ⟨tb, 0, none⟩ (.int .i64 (T' : Int))).setCell ⟨ib, 0, none⟩ (.int .i64 (I' : Int))) B tb ib bb fb T' I' l := by
 have hne := h.hb.2.2.2.2
 have t1 : Blk (w.setCell ⟨tb, 0, none⟩ (.int .i64 (T' : Int))) tb 3 #[.int .i64 (T' : Int)] := by simpa using h.t.set_ 0 (.int .i64 (T' : Int))
 have i1 : Blk (w.setCell ⟨tb, 0, none⟩ (.int .i64 (T' : Int))) ib 3 #[.int .i64 (I : Int)] := h.i.far (by show ib ≠ tb; exact hne.symm) _
 have hz : ((w.setCell ⟨tb, 0, none⟩ (.int .i64 (T' : Int))).setCell ⟨ib, 0, none⟩ (.int .i64 (I' : Int))).heap.size = w.heap.size := by
  rw [World.size_setCell, World.size_setCell]
 have bl : Below B w ((w.setCell ⟨tb, 0, none⟩ (.int .i64 (T' : Int))).setCell ⟨ib, 0, none⟩ (.int .i64 (I' : Int))) := ((Below.refl B w).setCell (p := ⟨tb, 0, none⟩) h.hb.1 _).setCell (p := ⟨ib, 0, none⟩) h.hb.2.1 _
 exact ⟨bld_far (bld_far h.bld h.t 0 _) i1 0 _, t1.far (by show tb ≠ ib; exact hne) _, by simpa using i1.set_ 0 (.int .i64 (I' : Int)),
  (h.f.far (by show fb ≠ tb; exact h.f.kinds h.t (by decide)) _).far (by show fb ≠ ib; exact h.f.kinds h.i (by decide)) _, h.hb, by rw [hz]; exact h.base, h.pow.1.below bl h.pow.2, h.pow.2⟩
theorem EncAt.write {w w' : World} {B tb ib bb fb T I : Nat} {l l' : List UInt8} (h : EncAt w B tb ib bb fb T I l) (hw : BldAt B bb l' w') (hb : Below B w w') (hk : Keep w w') : EncAt w' B tb ib bb fb T I l' :=
 ⟨hw, hk _ _ _ h.t (by decide) (by decide), hk _ _ _ h.i (by decide) (by decide), hk _ _ _ h.f (by decide) (by decide), h.hb, Nat.le_trans h.base hb.size, h.pow.1.below hb h.pow.2, h.pow.2⟩
def layOk (d : Nat) (x : Rep) (T I : Nat) : Bool := fineR d x && decide (txR x ≤ T) && decide (itR x ≤ I)
def LayE (w : World) (B tb ib bb fb T I : Nat) (l : List UInt8) (d : Nat) (x : Rep) (e : Ending) (w' : World) : Prop :=
 Below B w w' ∧ KeepL w w' ∧ (if layOk d x T I = true then e = .returned (.tuple #[]) ∧ EncAt w' B tb ib bb fb (T - txR x) (I - itR x) (l ++ encR x) else Gave 2 e)
theorem LayE.no {w w' : World} {B tb ib bb fb T I : Nat} {l : List UInt8} {d : Nat} {x : Rep} {e : Ending} (h : layOk d x T I = false) (h1 : Below B w w') (h2 : KeepL w w') (he : Gave 2 e) : LayE w B tb ib bb fb T I l d x e w' :=
 ⟨h1, h2, by rw [if_neg (by rw [h]; decide)]; exact he⟩
theorem LayE.yes {w w' : World} {B tb ib bb fb T I : Nat} {l : List UInt8} {d : Nat} {x : Rep} {e : Ending} (h : layOk d x T I = true) (h1 : Below B w w') (h2 : KeepL w w') (he : e = .returned (.tuple #[])) (h3 : EncAt w' B tb ib bb fb (T - txR x) (I - itR x) (l ++ encR x)) : LayE w B tb ib bb fb T I l d x e w' :=
 ⟨h1, h2, by rw [if_pos h]; exact ⟨he, h3⟩⟩
structure LayAt (w w4 : World) (B tb ib bb fb T I : Nat) (l : List UInt8) (x : Rep) (lv b1 b2 b3 : Value) : Prop where
 enc : EncAt w4 B tb ib bb fb T I l
 box : Blk w4 w.heap.size 25 #[.int .i64 x.k, .int .i64 x.n, .string x.s, lv]
 bare : Blk w4 (w.heap.size + 1) 25 #[.int .i64 x.k, b1, b2, b3]
 below : Below B w w4
 keep : KeepL w w4
theorem LayAt.write {w w4 w5 : World} {B tb ib bb fb T I : Nat} {l l' : List UInt8} {x : Rep} {lv b1 b2 b3 : Value} (h : LayAt w w4 B tb ib bb fb T I l x lv b1 b2 b3) (hw : BldAt B bb l' w5) (hb : Below B w4 w5) (hk : Keep w4 w5) : LayAt w w5 B tb ib bb fb T I l' x lv b1 b2 b3 :=
 ⟨h.enc.write hw hb hk, hk _ _ _ h.box (by decide) (by decide), hk _ _ _ h.bare (by decide) (by decide), h.below.trans hb, h.keep.trans (KeepL.keep hk)⟩
theorem LayAt.ext {w w4 w5 : World} {B tb ib bb fb T I : Nat} {l : List UInt8} {x : Rep} {lv b1 b2 b3 : Value} (h : LayAt w w4 B tb ib bb fb T I l x lv b1 b2 b3) (he : Ext w4 w5) : LayAt w w5 B tb ib bb fb T I l x lv b1 b2 b3 :=
 ⟨h.enc.ext he, h.box.ext he, h.bare.ext he, h.below.trans (Below.mono he h.enc.base), h.keep.trans (KeepL.ext he)⟩
theorem bld_off {B b : Nat} {l : List UInt8} {w : World} {g : Nat} {t : TypeId} {cs : Array Value} (h : BldAt B b l w) (hg : Blk w g t cs) (h1 : t ≠ 124) (h2 : t ≠ 5) (i : Nat) (u : Value) : BldAt B b l (w.setCell ⟨g, i, none⟩ u) := by
 have key : ∀ p, Lib.BuilderAt 124 5 B b p (Lib.byteCells l) w → Lib.BuilderAt 124 5 B b p (Lib.byteCells l) (w.setCell ⟨g, i, none⟩ u) := by
  rintro p ⟨hB, v, hb, ⟨hl, ho⟩, hn⟩
  have hne : b ≠ g := Blk.kinds (show Blk w b 124 _ from hb) hg h1.symm
  refine ⟨hB, v, (Below.heap_setCell w ⟨g, i, none⟩ u b hne).trans hb, ⟨hl, ?_⟩, hn⟩
  rcases ho with ho | ⟨g', cap, cur, e, hb', hh, h3⟩
  ·exact .inl ho
  ·have hne' : g' ≠ g := Blk.kinds (show Blk w g' 5 cur from hh) hg h2.symm
   exact .inr ⟨g', cap, cur, e, hb', (Below.heap_setCell w ⟨g, i, none⟩ u g' hne').trans hh, h3⟩
 exact h.imp (key _) (key _)
theorem LayAt.put {w w4 : World} {B tb ib bb fb T I : Nat} {l : List UInt8} {x : Rep} {lv b1 b2 b3 c1 c2 c3 : Value} (h : LayAt w w4 B tb ib bb fb T I l x lv b1 b2 b3) (i : Nat) (u : Value) (hw : (#[.int .i64 x.k, b1, b2, b3] : Array Value).setIfInBounds i u = #[.int .i64 x.k, c1, c2, c3]) (hl : B ≤ w.heap.size) :
  LayAt w (w4.setCell ⟨w.heap.size + 1, i, none⟩ u) B tb ib bb fb T I l x lv c1 c2 c3 := by
 have bl : Below B w4 (w4.setCell ⟨w.heap.size + 1, i, none⟩ u) := (Below.refl B w4).setCell (p := ⟨w.heap.size + 1, i, none⟩) (by show B ≤ w.heap.size + 1; omega) u
 refine ⟨⟨bld_off h.enc.bld h.bare (by decide) (by decide) i u, h.enc.t.far (by show tb ≠ w.heap.size + 1; exact h.enc.t.kinds h.bare (by decide)) _, h.enc.i.far (by show ib ≠ w.heap.size + 1; exact h.enc.i.kinds h.bare (by decide)) _, h.enc.f.far (by show fb ≠ w.heap.size + 1; exact h.enc.f.kinds h.bare (by decide)) _, h.enc.hb, by rw [World.size_setCell]; exact h.enc.base, h.enc.pow.1.below bl h.enc.pow.2, h.enc.pow.2⟩,
  h.box.far (by show w.heap.size ≠ w.heap.size + 1; omega) _, by rw [← hw]; exact h.bare.set_ i u, h.below.trans bl, fun j t cs hx h1 h2 h3 => ?_⟩
 have hlt := hx.lt
 exact (h.keep j t cs hx h1 h2 h3).far (p := ⟨w.heap.size + 1, i, none⟩) (by show j ≠ w.heap.size + 1; omega) _
theorem lay_start (w : World) {B tb ib bb fb T I T' I' : Nat} {l : List UInt8} (x : Rep) (lv : Value) (h : EncAt w B tb ib bb fb T I l) :
  LayAt w ((((w.setCell ⟨tb, 0, none⟩ (.int .i64 (T' : Int))).setCell ⟨ib, 0, none⟩ (.int .i64 (I' : Int))).alloc (.cells #[.int .i64 x.k, .int .i64 x.n, .string x.s, lv] 25)).alloc (.cells #[.int .i64 x.k, .int .i64 0, .string ⟨#[]⟩, .slice none 0 0] 25)) B tb ib bb fb T' I' l x lv (.int .i64 0) (.string ⟨#[]⟩) (.slice none 0 0) := by
 have h2 := h.sub (T' := T') (I' := I')
 have i1 : Blk (w.setCell ⟨tb, 0, none⟩ (.int .i64 (T' : Int))) ib 3 #[.int .i64 (I : Int)] := h.i.far (by show ib ≠ tb; exact h.hb.2.2.2.2.symm) _
 have K := ((KeepL.refl w).set h.t 0 (.int .i64 (T' : Int))).set i1 0 (.int .i64 (I' : Int))
 have bl : Below B w ((w.setCell ⟨tb, 0, none⟩ (.int .i64 (T' : Int))).setCell ⟨ib, 0, none⟩ (.int .i64 (I' : Int))) := ((Below.refl B w).setCell (p := ⟨tb, 0, none⟩) h.hb.1 _).setCell (p := ⟨ib, 0, none⟩) h.hb.2.1 _
 have hz : ((w.setCell ⟨tb, 0, none⟩ (.int .i64 (T' : Int))).setCell ⟨ib, 0, none⟩ (.int .i64 (I' : Int))).heap.size = w.heap.size := by
  rw [World.size_setCell, World.size_setCell]
 generalize (w.setCell ⟨tb, 0, none⟩ (.int .i64 (T' : Int))).setCell ⟨ib, 0, none⟩ (.int .i64 (I' : Int)) = w1 at h2 K bl hz ⊢
 have hE : Ext w1 ((w1.alloc (.cells #[.int .i64 x.k, .int .i64 x.n, .string x.s, lv] 25)).alloc (.cells #[.int .i64 x.k, .int .i64 0, .string ⟨#[]⟩, .slice none 0 0] 25)) := ((Ext.refl w1).alloc _).alloc _
 have bx : Blk ((w1.alloc (.cells #[.int .i64 x.k, .int .i64 x.n, .string x.s, lv] 25)).alloc (.cells #[.int .i64 x.k, .int .i64 0, .string ⟨#[]⟩, .slice none 0 0] 25)) w.heap.size 25 #[.int .i64 x.k, .int .i64 x.n, .string x.s, lv] := by
  rw [← hz]; exact (Blk.new w1 _ _).alloc _
 have br : Blk ((w1.alloc (.cells #[.int .i64 x.k, .int .i64 x.n, .string x.s, lv] 25)).alloc (.cells #[.int .i64 x.k, .int .i64 0, .string ⟨#[]⟩, .slice none 0 0] 25)) (w.heap.size + 1) 25 #[.int .i64 x.k, .int .i64 0, .string ⟨#[]⟩, .slice none 0 0] := by
  rw [← hz]; exact newR_at (size_alloc _ _).symm _ _
 exact ⟨h2.ext hE, bx, br, Below.trans bl (Below.mono hE h2.base), K.trans (KeepL.ext hE)⟩
theorem its_len' (n : Int) (h0 : -9223372036854775808 ≤ n) (h1 : n ≤ 9223372036854775807) : (Lib.itoa n).length ≤ 21 := Lib.itoa_length_le n h0 h1
theorem dec_len (n : Nat) (h : n ≤ 9223372036854775807) : (Lib.decDigits n).length ≤ 21 := by
 have := its_len' (n : Int) (by omega) (by omega)
 rwa [Lib.itoa_nonneg] at this
mutual
theorem encR_len : ∀ (x : Rep), i64R x → txR x ≤ 1048576 → itR x ≤ 65536 → (encR x).length ≤ 30 * (1 + itR x) + txR x
 | .mk k n s l, h6, ht, hi => by
  simp only [txR, itR, i64R] at ht hi h6 ⊢
  have hl := encL_len l h6.2 (by omega) (by omega)
  have hs : s.data.toList.length = s.size := rfl
  have h1 := its_len' n h6.1.1 h6.1.2
  have h2 := dec_len l.length (by omega)
  have h3 := textB_len s (by omega)
  simp only [encR]
  split
  ·simp only [List.length_cons, List.length_nil]; omega
  ·split
   ·simp only [lineB, List.length_cons, List.length_append, List.length_nil]; omega
   ·split
    ·simp only [lineB, List.length_cons, List.length_append, List.length_nil]; omega
    ·split
     ·simp only [lineB, List.length_cons, List.length_append, List.length_nil]; omega
     ·split
      ·omega
      ·simp only [lineB, List.length_cons, List.length_append, List.length_nil]; omega
theorem encL_len : ∀ (l : List Rep), i64L l → txL l ≤ 1048576 → itL l ≤ 65536 → (encL l).length ≤ 30 * (l.length + itL l) + txL l
 | [], h6, ht, hi => by simp [encL]
 | x :: l, h6, ht, hi => by
  simp only [txL, itL, i64L] at ht hi h6 ⊢
  have h1 := encR_len x h6.1 (by omega) (by omega)
  have h2 := encL_len l h6.2 (by omega) (by omega)
  simp only [encL, List.length_append, List.length_cons]
  omega
end
end Go.Proofs.YtlfihdcgbhdajaaGreatDoor
namespace Go.Proofs.YtlfihdcgbhdajaaGreatDoor
open Go.RowKit
set_option linter.unusedVariables false
set_option linter.unusedSimpArgs false

theorem lay_tx {d : Nat} {x : Rep} {T I : Nat} (h : T < x.s.size) : layOk d x T I = false := by
 obtain ⟨k, n, s, l⟩ := x
 have : T < s.size + txL l := Nat.lt_of_lt_of_le h (Nat.le_add_right _ _)
 have h2 : decide (txR (.mk k n s l) ≤ T) = false := by simp only [txR]; exact decide_eq_false (by omega)
 simp [layOk, h2]
theorem lay_it {d : Nat} {x : Rep} {T I : Nat} (h : I < x.l.length) : layOk d x T I = false := by
 obtain ⟨k, n, s, l⟩ := x
 have : I < l.length + itL l := Nat.lt_of_lt_of_le h (Nat.le_add_right _ _)
 have h2 : decide (itR (.mk k n s l) ≤ I) = false := by simp only [itR]; exact decide_eq_false (by omega)
 simp [layOk, h2]
theorem over_below {w : World} {B tb ib bb fb T I : Nat} {l : List UInt8} (h : EncAt w B tb ib bb fb T I l) (u v : Value) (o p : Obj) : Below B w ((((w.setCell ⟨tb, 0, none⟩ u).setCell ⟨ib, 0, none⟩ v).alloc o).alloc p) := by
 have b1 : Below B w ((w.setCell ⟨tb, 0, none⟩ u).setCell ⟨ib, 0, none⟩ v) := ((Below.refl B w).setCell (p := ⟨tb, 0, none⟩) h.hb.1 _).setCell (p := ⟨ib, 0, none⟩) h.hb.2.1 _
 have hb : B ≤ ((w.setCell ⟨tb, 0, none⟩ u).setCell ⟨ib, 0, none⟩ v).heap.size := by rw [World.size_setCell, World.size_setCell]; exact h.base
 exact (b1.alloc hb o).alloc (by rw [size_alloc]; omega) p
theorem over_keep {w : World} {B tb ib bb fb T I : Nat} {l : List UInt8} (h : EncAt w B tb ib bb fb T I l) (u v : Value) (o p : Obj) : KeepL w ((((w.setCell ⟨tb, 0, none⟩ u).setCell ⟨ib, 0, none⟩ v).alloc o).alloc p) := by
 have i1 : Blk (w.setCell ⟨tb, 0, none⟩ u) ib 3 #[.int .i64 (I : Int)] := h.i.far (by show ib ≠ tb; exact h.hb.2.2.2.2.symm) _
 exact (((KeepL.refl w).set h.t 0 u).set i1 0 v).trans (KeepL.ext (((Ext.refl _).alloc o).alloc p))
set_option maxRecDepth 100000 in
set_option maxHeartbeats 2000000 in
theorem lay_tss (w : World) {B tb ib bb fb T I : Nat} {l : List UInt8} (d : Nat) (x : Rep) (q : Option Addr) (c : Nat) (h : EncAt w B tb ib bb fb T I l) (hT : T ≤ 1048576) (hI : I ≤ 65536) (hs : T < x.s.size) (hb : x.s.size < 1048577) (hn : x.l.length < 65537) :
  Calls Tryz.prog 75 #[.agg #[.int .i64 x.k, .int .i64 x.n, .string x.s, .slice q x.l.length c], .int .i64 (d : Int), .pointer (some ⟨tb, 0, none⟩), .pointer (some ⟨ib, 0, none⟩), .pointer (some ⟨bb, 0, none⟩), .pointer (some ⟨fb, 0, none⟩)] w (LayE w B tb ib bb fb T I l d x) := by
 have ct := h.t.cell 0
 have ci := h.i.cell 0
 have zt := h.t.frozen 0
 have zi := h.i.frozen 0
 simp only [List.getElem?_toArray, List.getElem?_cons_zero, List.getElem?_cons_succ] at ct ci
 have lt := h.t.lt
 have li := h.i.lt
 have nt : ¬ tb = w.heap.size := by omega
 have nt1 : ¬ tb = w.heap.size + 1 := by omega
 have ni : ¬ ib = w.heap.size := by omega
 have ni1 : ¬ ib = w.heap.size + 1 := by omega
 have nti : ¬ tb = ib := h.hb.2.2.2.2
 have nit : ¬ ib = tb := fun e => h.hb.2.2.2.2 e.symm
 have H := Lib.hid h
 have hm1 : min (x.s.size : Int) 1048577 = (x.s.size : Int) := by omega
 have hw1 : IntKind.i64.wrap ((T : Int) - (x.s.size : Int)) = (T : Int) - (x.s.size : Int) := IntWalk.i64_in _ (by omega)
 have hm2 : min (x.l.length : Int) 65537 = (x.l.length : Int) := by omega
 have hw2 : IntKind.i64.wrap ((I : Int) - (x.l.length : Int)) = (I : Int) - (x.l.length : Int) := IntWalk.i64_in _ (by omega)
 have ht : decide ((0 : Int) ≤ (T : Int) - (x.s.size : Int)) = false := by simp; omega
 clear h hb hn
 go_enter Tryz.func75, Tryz.ntmps75
 go_wp2_with fail
 refine (must_no _ _).mono ?_
 rintro e w' ⟨rfl, rfl⟩
 go_wp2_with fail
 exact ⟨rfl, LayE.no (lay_tx hs) (over_below H.out _ _ _ _) (over_keep H.out _ _ _ _) rfl⟩
set_option maxRecDepth 100000 in
set_option maxHeartbeats 2000000 in
theorem lay_tsb (w : World) {B tb ib bb fb T I : Nat} {l : List UInt8} (d : Nat) (x : Rep) (q : Option Addr) (c : Nat) (h : EncAt w B tb ib bb fb T I l) (hT : T ≤ 1048576) (hI : I ≤ 65536) (hs : T < x.s.size) (hb : x.s.size < 1048577) (hn : 65537 ≤ x.l.length) :
  Calls Tryz.prog 75 #[.agg #[.int .i64 x.k, .int .i64 x.n, .string x.s, .slice q x.l.length c], .int .i64 (d : Int), .pointer (some ⟨tb, 0, none⟩), .pointer (some ⟨ib, 0, none⟩), .pointer (some ⟨bb, 0, none⟩), .pointer (some ⟨fb, 0, none⟩)] w (LayE w B tb ib bb fb T I l d x) := by
 have ct := h.t.cell 0
 have ci := h.i.cell 0
 have zt := h.t.frozen 0
 have zi := h.i.frozen 0
 simp only [List.getElem?_toArray, List.getElem?_cons_zero, List.getElem?_cons_succ] at ct ci
 have lt := h.t.lt
 have li := h.i.lt
 have nt : ¬ tb = w.heap.size := by omega
 have nt1 : ¬ tb = w.heap.size + 1 := by omega
 have ni : ¬ ib = w.heap.size := by omega
 have ni1 : ¬ ib = w.heap.size + 1 := by omega
 have nti : ¬ tb = ib := h.hb.2.2.2.2
 have nit : ¬ ib = tb := fun e => h.hb.2.2.2.2 e.symm
 have H := Lib.hid h
 have hm1 : min (x.s.size : Int) 1048577 = (x.s.size : Int) := by omega
 have hw1 : IntKind.i64.wrap ((T : Int) - (x.s.size : Int)) = (T : Int) - (x.s.size : Int) := IntWalk.i64_in _ (by omega)
 have hm2 : min (x.l.length : Int) 65537 = 65537 := by omega
 have hw2 : IntKind.i64.wrap ((I : Int) - 65537) = (I : Int) - 65537 := IntWalk.i64_in _ (by omega)
 have ht : decide ((0 : Int) ≤ (T : Int) - (x.s.size : Int)) = false := by simp; omega
 clear h hb hn
 go_enter Tryz.func75, Tryz.ntmps75
 go_wp2_with fail
 refine (must_no _ _).mono ?_
 rintro e w' ⟨rfl, rfl⟩
 go_wp2_with fail
 exact ⟨rfl, LayE.no (lay_tx hs) (over_below H.out _ _ _ _) (over_keep H.out _ _ _ _) rfl⟩
set_option maxRecDepth 100000 in
set_option maxHeartbeats 2000000 in
theorem lay_tbs (w : World) {B tb ib bb fb T I : Nat} {l : List UInt8} (d : Nat) (x : Rep) (q : Option Addr) (c : Nat) (h : EncAt w B tb ib bb fb T I l) (hT : T ≤ 1048576) (hI : I ≤ 65536) (hs : T < x.s.size) (hb : 1048577 ≤ x.s.size) (hn : x.l.length < 65537) :
  Calls Tryz.prog 75 #[.agg #[.int .i64 x.k, .int .i64 x.n, .string x.s, .slice q x.l.length c], .int .i64 (d : Int), .pointer (some ⟨tb, 0, none⟩), .pointer (some ⟨ib, 0, none⟩), .pointer (some ⟨bb, 0, none⟩), .pointer (some ⟨fb, 0, none⟩)] w (LayE w B tb ib bb fb T I l d x) := by
 have ct := h.t.cell 0
 have ci := h.i.cell 0
 have zt := h.t.frozen 0
 have zi := h.i.frozen 0
 simp only [List.getElem?_toArray, List.getElem?_cons_zero, List.getElem?_cons_succ] at ct ci
 have lt := h.t.lt
 have li := h.i.lt
 have nt : ¬ tb = w.heap.size := by omega
 have nt1 : ¬ tb = w.heap.size + 1 := by omega
 have ni : ¬ ib = w.heap.size := by omega
 have ni1 : ¬ ib = w.heap.size + 1 := by omega
 have nti : ¬ tb = ib := h.hb.2.2.2.2
 have nit : ¬ ib = tb := fun e => h.hb.2.2.2.2 e.symm
 have H := Lib.hid h
 have hm1 : min (x.s.size : Int) 1048577 = 1048577 := by omega
 have hw1 : IntKind.i64.wrap ((T : Int) - 1048577) = (T : Int) - 1048577 := IntWalk.i64_in _ (by omega)
 have hm2 : min (x.l.length : Int) 65537 = (x.l.length : Int) := by omega
 have hw2 : IntKind.i64.wrap ((I : Int) - (x.l.length : Int)) = (I : Int) - (x.l.length : Int) := IntWalk.i64_in _ (by omega)
 have ht : decide ((0 : Int) ≤ (T : Int) - 1048577) = false := by simp; omega
 clear h hb hn
 go_enter Tryz.func75, Tryz.ntmps75
 go_wp2_with fail
 refine (must_no _ _).mono ?_
 rintro e w' ⟨rfl, rfl⟩
 go_wp2_with fail
 exact ⟨rfl, LayE.no (lay_tx hs) (over_below H.out _ _ _ _) (over_keep H.out _ _ _ _) rfl⟩
set_option maxRecDepth 100000 in
set_option maxHeartbeats 2000000 in
theorem lay_tbb (w : World) {B tb ib bb fb T I : Nat} {l : List UInt8} (d : Nat) (x : Rep) (q : Option Addr) (c : Nat) (h : EncAt w B tb ib bb fb T I l) (hT : T ≤ 1048576) (hI : I ≤ 65536) (hs : T < x.s.size) (hb : 1048577 ≤ x.s.size) (hn : 65537 ≤ x.l.length) :
  Calls Tryz.prog 75 #[.agg #[.int .i64 x.k, .int .i64 x.n, .string x.s, .slice q x.l.length c], .int .i64 (d : Int), .pointer (some ⟨tb, 0, none⟩), .pointer (some ⟨ib, 0, none⟩), .pointer (some ⟨bb, 0, none⟩), .pointer (some ⟨fb, 0, none⟩)] w (LayE w B tb ib bb fb T I l d x) := by
 have ct := h.t.cell 0
 have ci := h.i.cell 0
 have zt := h.t.frozen 0
 have zi := h.i.frozen 0
 simp only [List.getElem?_toArray, List.getElem?_cons_zero, List.getElem?_cons_succ] at ct ci
 have lt := h.t.lt
 have li := h.i.lt
 have nt : ¬ tb = w.heap.size := by omega
 have nt1 : ¬ tb = w.heap.size + 1 := by omega
 have ni : ¬ ib = w.heap.size := by omega
 have ni1 : ¬ ib = w.heap.size + 1 := by omega
 have nti : ¬ tb = ib := h.hb.2.2.2.2
 have nit : ¬ ib = tb := fun e => h.hb.2.2.2.2 e.symm
 have H := Lib.hid h
 have hm1 : min (x.s.size : Int) 1048577 = 1048577 := by omega
 have hw1 : IntKind.i64.wrap ((T : Int) - 1048577) = (T : Int) - 1048577 := IntWalk.i64_in _ (by omega)
 have hm2 : min (x.l.length : Int) 65537 = 65537 := by omega
 have hw2 : IntKind.i64.wrap ((I : Int) - 65537) = (I : Int) - 65537 := IntWalk.i64_in _ (by omega)
 have ht : decide ((0 : Int) ≤ (T : Int) - 1048577) = false := by simp; omega
 clear h hb hn
 go_enter Tryz.func75, Tryz.ntmps75
 go_wp2_with fail
 refine (must_no _ _).mono ?_
 rintro e w' ⟨rfl, rfl⟩
 go_wp2_with fail
 exact ⟨rfl, LayE.no (lay_tx hs) (over_below H.out _ _ _ _) (over_keep H.out _ _ _ _) rfl⟩
set_option maxRecDepth 100000 in
set_option maxHeartbeats 2000000 in
theorem lay_is (w : World) {B tb ib bb fb T I : Nat} {l : List UInt8} (d : Nat) (x : Rep) (q : Option Addr) (c : Nat) (h : EncAt w B tb ib bb fb T I l) (hT : T ≤ 1048576) (hI : I ≤ 65536) (hs : x.s.size ≤ T) (ho : I < x.l.length) (hn : x.l.length < 65537) :
  Calls Tryz.prog 75 #[.agg #[.int .i64 x.k, .int .i64 x.n, .string x.s, .slice q x.l.length c], .int .i64 (d : Int), .pointer (some ⟨tb, 0, none⟩), .pointer (some ⟨ib, 0, none⟩), .pointer (some ⟨bb, 0, none⟩), .pointer (some ⟨fb, 0, none⟩)] w (LayE w B tb ib bb fb T I l d x) := by
 have ct := h.t.cell 0
 have ci := h.i.cell 0
 have zt := h.t.frozen 0
 have zi := h.i.frozen 0
 simp only [List.getElem?_toArray, List.getElem?_cons_zero, List.getElem?_cons_succ] at ct ci
 have lt := h.t.lt
 have li := h.i.lt
 have nt : ¬ tb = w.heap.size := by omega
 have nt1 : ¬ tb = w.heap.size + 1 := by omega
 have ni : ¬ ib = w.heap.size := by omega
 have ni1 : ¬ ib = w.heap.size + 1 := by omega
 have nti : ¬ tb = ib := h.hb.2.2.2.2
 have nit : ¬ ib = tb := fun e => h.hb.2.2.2.2 e.symm
 have H := Lib.hid h
 have hm1 : min (x.s.size : Int) 1048577 = (x.s.size : Int) := by omega
 have hw1 : IntKind.i64.wrap ((T : Int) - (x.s.size : Int)) = (T : Int) - (x.s.size : Int) := IntWalk.i64_in _ (by omega)
 have hm2 : min (x.l.length : Int) 65537 = (x.l.length : Int) := by omega
 have hw2 : IntKind.i64.wrap ((I : Int) - (x.l.length : Int)) = (I : Int) - (x.l.length : Int) := IntWalk.i64_in _ (by omega)
 have ht : decide ((0 : Int) ≤ (T : Int) - (x.s.size : Int)) = true := by simp; omega
 have hi : decide ((0 : Int) ≤ (I : Int) - (x.l.length : Int)) = false := decide_eq_false (by omega)
 have hi2 : decide ((x.l.length : Int) ≤ (I : Int)) = false := decide_eq_false (by omega)
 have hi3 : decide (x.l.length ≤ I) = false := decide_eq_false (by omega)
 clear h hn
 go_enter Tryz.func75, Tryz.ntmps75
 go_wp2_with fail
 refine (must_no _ _).mono ?_
 rintro e w' ⟨rfl, rfl⟩
 go_wp2_with fail
 exact ⟨rfl, LayE.no (lay_it ho) (over_below H.out _ _ _ _) (over_keep H.out _ _ _ _) rfl⟩
set_option maxRecDepth 100000 in
set_option maxHeartbeats 2000000 in
theorem lay_ib (w : World) {B tb ib bb fb T I : Nat} {l : List UInt8} (d : Nat) (x : Rep) (q : Option Addr) (c : Nat) (h : EncAt w B tb ib bb fb T I l) (hT : T ≤ 1048576) (hI : I ≤ 65536) (hs : x.s.size ≤ T) (ho : I < x.l.length) (hn : 65537 ≤ x.l.length) :
  Calls Tryz.prog 75 #[.agg #[.int .i64 x.k, .int .i64 x.n, .string x.s, .slice q x.l.length c], .int .i64 (d : Int), .pointer (some ⟨tb, 0, none⟩), .pointer (some ⟨ib, 0, none⟩), .pointer (some ⟨bb, 0, none⟩), .pointer (some ⟨fb, 0, none⟩)] w (LayE w B tb ib bb fb T I l d x) := by
 have ct := h.t.cell 0
 have ci := h.i.cell 0
 have zt := h.t.frozen 0
 have zi := h.i.frozen 0
 simp only [List.getElem?_toArray, List.getElem?_cons_zero, List.getElem?_cons_succ] at ct ci
 have lt := h.t.lt
 have li := h.i.lt
 have nt : ¬ tb = w.heap.size := by omega
 have nt1 : ¬ tb = w.heap.size + 1 := by omega
 have ni : ¬ ib = w.heap.size := by omega
 have ni1 : ¬ ib = w.heap.size + 1 := by omega
 have nti : ¬ tb = ib := h.hb.2.2.2.2
 have nit : ¬ ib = tb := fun e => h.hb.2.2.2.2 e.symm
 have H := Lib.hid h
 have hm1 : min (x.s.size : Int) 1048577 = (x.s.size : Int) := by omega
 have hw1 : IntKind.i64.wrap ((T : Int) - (x.s.size : Int)) = (T : Int) - (x.s.size : Int) := IntWalk.i64_in _ (by omega)
 have hm2 : min (x.l.length : Int) 65537 = 65537 := by omega
 have hw2 : IntKind.i64.wrap ((I : Int) - 65537) = (I : Int) - 65537 := IntWalk.i64_in _ (by omega)
 have ht : decide ((0 : Int) ≤ (T : Int) - (x.s.size : Int)) = true := by simp; omega
 have hi : decide ((0 : Int) ≤ (I : Int) - 65537) = false := decide_eq_false (by omega)
 have hi2 : decide (65537 ≤ (I : Int)) = false := decide_eq_false (by omega)
 have hi3 : decide (x.l.length ≤ I) = false := decide_eq_false (by omega)
 clear h hn
 go_enter Tryz.func75, Tryz.ntmps75
 go_wp2_with fail
 refine (must_no _ _).mono ?_
 rintro e w' ⟨rfl, rfl⟩
 go_wp2_with fail
 exact ⟨rfl, LayE.no (lay_it ho) (over_below H.out _ _ _ _) (over_keep H.out _ _ _ _) rfl⟩
theorem lay_over (w : World) {B tb ib bb fb T I : Nat} {l : List UInt8} (d : Nat) (x : Rep) (q : Option Addr) (c : Nat) (h : EncAt w B tb ib bb fb T I l) (hT : T ≤ 1048576) (hI : I ≤ 65536) (ho : T < x.s.size ∨ I < x.l.length) :
  Calls Tryz.prog 75 #[.agg #[.int .i64 x.k, .int .i64 x.n, .string x.s, .slice q x.l.length c], .int .i64 (d : Int), .pointer (some ⟨tb, 0, none⟩), .pointer (some ⟨ib, 0, none⟩), .pointer (some ⟨bb, 0, none⟩), .pointer (some ⟨fb, 0, none⟩)] w (LayE w B tb ib bb fb T I l d x) := by
 by_cases hs : T < x.s.size
 ·by_cases h1 : x.s.size < 1048577
  ·by_cases h2 : x.l.length < 65537
   ·exact lay_tss w d x q c h hT hI hs h1 h2
   ·exact lay_tsb w d x q c h hT hI hs h1 (by omega)
  ·by_cases h2 : x.l.length < 65537
   ·exact lay_tbs w d x q c h hT hI hs (by omega) h2
   ·exact lay_tbb w d x q c h hT hI hs (by omega) (by omega)
 ·by_cases h2 : x.l.length < 65537
  ·exact lay_is w d x q c h hT hI (by omega) (by omega) h2
  ·exact lay_ib w d x q c h hT hI (by omega) (by omega) (by omega)
end Go.Proofs.YtlfihdcgbhdajaaGreatDoor
namespace Go.Proofs.YtlfihdcgbhdajaaGreatDoor
open Go.RowKit
set_option linter.unusedVariables false
set_option linter.unusedSimpArgs false

theorem to_nil {s : ByteArray} : s.toList = [] ↔ s.size = 0 := by
 rw [Lib.toList_data]
 constructor
 ·intro h
  have := congrArg List.length h
  simpa using this
 ·intro h
  rw [bytes_nil h]
theorem fine0 {d : Nat} {x : Rep} (hk : x.k = 0) : fineR d x = (x.n == 0 && x.s.size == 0 && x.l.length == 0) := by
 obtain ⟨k, n, s, l⟩ := x
 obtain rfl : k = 0 := hk
 simp [fineR, Rep.n, Rep.s, Rep.l]
theorem fine12 {d : Nat} {x : Rep} (hk : x.k = 1 ∨ x.k = 2) : fineR d x = (x.n == 0 && linedB x.s && x.l.length == 0) := by
 obtain ⟨k, n, s, l⟩ := x
 have hk' : k = 1 ∨ k = 2 := hk
 have h0 : ¬ k = 0 := by omega
 simp only [fineR, if_neg h0, if_pos hk', Rep.n, Rep.s, Rep.l]
theorem fine3 {d : Nat} {x : Rep} (hk : x.k = 3) : fineR d x = (x.s.size == 0 && x.l.length == 0) := by
 obtain ⟨k, n, s, l⟩ := x
 obtain rfl : k = 3 := hk
 simp [fineR, Rep.n, Rep.s, Rep.l]
theorem fine4 {d : Nat} {x : Rep} (hk : x.k = 4) : fineR d x = (x.n == 0 && x.l.length == 0) := by
 obtain ⟨k, n, s, l⟩ := x
 obtain rfl : k = 4 := hk
 simp [fineR, Rep.n, Rep.s, Rep.l]
theorem fine5 {d : Nat} {x : Rep} (hk : x.k = 5) : fineR (d + 1) x = (x.n == 0 && x.s.size == 0 && x.l.all (fineR d)) := by
 obtain ⟨k, n, s, l⟩ := x
 obtain rfl : k = 5 := hk
 simp [fineR, Rep.n, Rep.s, Rep.l, fineL_all]
theorem fine50 {x : Rep} (hk : x.k = 5) : fineR 0 x = false := by
 obtain ⟨k, n, s, l⟩ := x
 obtain rfl : k = 5 := hk
 simp [fineR]
theorem fineX {d : Nat} {x : Rep} (h : ¬ x.k = 0 ∧ ¬ x.k = 1 ∧ ¬ x.k = 2 ∧ ¬ x.k = 3 ∧ ¬ x.k = 4 ∧ ¬ x.k = 5) : fineR d x = false := by
 obtain ⟨k, n, s, l⟩ := x
 obtain ⟨h0, h1, h2, h3, h4, h5⟩ := h
 simp only [Rep.k] at h0 h1 h2 h3 h4 h5
 simp [fineR, h0, h1, h2, h3, h4, h5]
theorem lay_unfine {d : Nat} {x : Rep} {T I : Nat} (h : fineR d x = false) : layOk d x T I = false := by simp [layOk, h]
theorem leaf {x : Rep} (h : x.l.length = 0) : txR x = x.s.size ∧ itR x = 0 := by
 obtain ⟨k, n, s, l⟩ := x
 obtain rfl : l = [] := List.eq_nil_of_length_eq_zero h
 simp [txR, txL, itR, itL, Rep.s]
theorem lay_leaf {d : Nat} {x : Rep} {T I : Nat} (h : fineR d x = true) (hl : x.l.length = 0) (hs : x.s.size ≤ T) : layOk d x T I = true := by
 obtain ⟨h1, h2⟩ := leaf hl
 simp [layOk, h, h1, h2, hs]
theorem enc0 {x : Rep} (hk : x.k = 0) : encR x = [36, 45, 49, 13, 10] := by
 obtain ⟨k, n, s, l⟩ := x
 obtain rfl : k = 0 := hk
 simp [encR]
theorem enc1 {x : Rep} (hk : x.k = 1) : encR x = 43 :: lineB x.s.data.toList := by
 obtain ⟨k, n, s, l⟩ := x
 obtain rfl : k = 1 := hk
 simp [encR, Rep.s]
theorem enc2 {x : Rep} (hk : x.k = 2) : encR x = 45 :: lineB x.s.data.toList := by
 obtain ⟨k, n, s, l⟩ := x
 obtain rfl : k = 2 := hk
 simp [encR, Rep.s]
theorem enc3 {x : Rep} (hk : x.k = 3) : encR x = 58 :: lineB (Lib.itoa x.n) := by
 obtain ⟨k, n, s, l⟩ := x
 obtain rfl : k = 3 := hk
 simp [encR, Rep.n]
theorem enc4 {x : Rep} (hk : x.k = 4) : encR x = textB x.s := by
 obtain ⟨k, n, s, l⟩ := x
 obtain rfl : k = 4 := hk
 simp [encR, Rep.s]
theorem enc5 {x : Rep} (hk : x.k = 5) : encR x = 42 :: lineB (Lib.decDigits x.l.length) ++ encL x.l := by
 obtain ⟨k, n, s, l⟩ := x
 obtain rfl : k = 5 := hk
 simp [encR, Rep.l]
theorem lay_done {w w' : World} {B tb ib bb fb T I : Nat} {l l' : List UInt8} {d : Nat} {x : Rep} {lv b1 b2 b3 : Value} {e : Ending} (h : LayAt w w' B tb ib bb fb (T - x.s.size) (I - x.l.length) l' x lv b1 b2 b3) (hf : fineR d x = true) (hl : x.l.length = 0) (hs : x.s.size ≤ T)
  (he : e = .returned (.tuple #[])) (hx : l' = l ++ encR x) : LayE w B tb ib bb fb T I l d x e w' := by
 refine LayE.yes (lay_leaf hf hl hs) h.below h.keep he ?_
 obtain ⟨h1, h2⟩ := leaf hl
 rw [h1, h2, ← hx]
 have := h.enc
 rwa [hl] at this
theorem len_of {n : Int} {k : Nat} (h1 : (0 : Int) = n) (h : (n == (k : Int)) = true) : k = 0 := by
 subst h1; simp at h; omega
theorem len_no {n : Int} {k : Nat} (h1 : (0 : Int) = n) (h : (n == (k : Int)) = false) : ¬ k = 0 := by
 subst h1; simp at h; omega
theorem no0 {d : Nat} {x : Rep} (hk : x.k = 0) (h : ¬ (0 : Int) = x.n ∨ ¬ x.s.toList = [] ∨ ((0 : Int) = x.n ∧ (x.n == (x.l.length : Int)) = false)) : fineR d x = false := by
 rw [fine0 hk]
 rcases h with h | h | ⟨h, h'⟩
 ·have : (x.n == 0) = false := by simp; omega
  simp [this]
 ·rw [to_nil] at h; simp [h]
 ·have := len_no h h'; simp at this; simp [this]
theorem yes0 {d : Nat} {x : Rep} (hk : x.k = 0) (h1 : (0 : Int) = x.n) (h2 : x.s.toList = []) (h3 : (x.n == (x.l.length : Int)) = true) : fineR d x = true := by
 rw [fine0 hk, ← h1, len_of h1 h3, to_nil.1 h2]; rfl
def hasB (s : ByteArray) (c : UInt8) : Bool := s.data.toList.any (· == c)
theorem idx_iff : ∀ (l : List UInt8) (c : UInt8), (0 ≤ Lib.indexByte l c) ↔ (l.any (· == c)) = true
 | [], c => by simp [Lib.indexByte]
 | b :: l, c => by
  have ih := idx_iff l c
  have hge := Lib.indexByte_ge l c
  simp only [Lib.indexByte, List.any_cons, Bool.or_eq_true]
  split
  ·rename_i h; simp [h]
  ·rename_i h
   split
   ·rename_i h2
    have h3 : Lib.indexByte l c = -1 := by simpa using h2
    rw [h3] at ih
    constructor
    ·intro h4; omega
    ·rintro (h4 | h4)
     ·exact absurd h4 h
     ·have := ih.2 h4; omega
   ·rename_i h2
    have h3 : ¬ Lib.indexByte l c = -1 := by simpa using h2
    constructor
    ·intro _; exact .inr (ih.1 (by omega))
    ·intro _; omega
theorem idx_has (l : List UInt8) (c : UInt8) : decide (0 ≤ Lib.indexByte l c) = l.any (· == c) := by
 rw [Bool.eq_iff_iff, decide_eq_true_iff]
 exact idx_iff l c
theorem contains_any (s : ByteArray) (c : UInt8) (w : World) : Calls Tryz.prog 78 #[.string s, .string ⟨#[c]⟩] w fun e w' => e = .returned (.bool (hasB s c)) ∧ w = w' := by
 refine (Tryz.strings_Contains_one s c w).mono ?_
 rintro e w' ⟨rfl, rfl⟩
 exact ⟨by rw [idx_has]; rfl, rfl⟩
theorem any_byte (l : List UInt8) (c : UInt8) (n : Nat) (h : c.toNat = n) : (l.any (· == c)) = (l.any fun b => b.toNat == n) := by
 subst h
 congr 1
 funext b
 rw [Bool.eq_iff_iff]
 simp [UInt8.toNat_inj]
theorem lined_has (s : ByteArray) : linedB s = (!hasB s 13 && !hasB s 10) := by
 unfold linedB hasB
 rw [any_byte _ 13 13 rfl, any_byte _ 10 10 rfl]
 induction s.data.toList with
 | nil => rfl
 | cons c l ih =>
  simp only [List.all_cons, List.any_cons, ih]
  cases c.toNat == 13 <;> cases c.toNat == 10 <;> cases l.any (fun b => b.toNat == 13) <;> cases l.any (fun b => b.toNat == 10) <;> rfl
theorem no12 {d : Nat} {x : Rep} (hk : x.k = 1 ∨ x.k = 2) (h : hasB x.s 13 = true ∨ hasB x.s 10 = true) : fineR d x = false := by
 rw [fine12 hk, lined_has]
 rcases h with h | h <;> simp [h]
theorem no12' {d : Nat} {x : Rep} (hk : x.k = 1 ∨ x.k = 2) (h : ¬ (0 : Int) = x.n ∨ ((0 : Int) = x.n ∧ (x.n == (x.l.length : Int)) = false)) : fineR d x = false := by
 rw [fine12 hk]
 rcases h with h | ⟨h, h'⟩
 ·have : (x.n == 0) = false := by simp; omega
  simp [this]
 ·have := len_no h h'; simp at this; simp [this]
theorem yes12 {d : Nat} {x : Rep} (hk : x.k = 1 ∨ x.k = 2) (h1 : (0 : Int) = x.n) (h2 : hasB x.s 13 = false) (h3 : hasB x.s 10 = false) (h4 : (x.n == (x.l.length : Int)) = true) : fineR d x = true := by
 rw [fine12 hk, lined_has, h2, h3, ← h1, len_of h1 h4]; rfl
theorem no4 {d : Nat} {x : Rep} (hk : x.k = 4) (h : ¬ (0 : Int) = x.n ∨ ((0 : Int) = x.n ∧ (x.n == (x.l.length : Int)) = false)) : fineR d x = false := by
 rw [fine4 hk]
 rcases h with h | ⟨h, h'⟩
 ·have : (x.n == 0) = false := by simp; omega
  simp [this]
 ·have := len_no h h'; simp at this; simp [this]
theorem yes4 {d : Nat} {x : Rep} (hk : x.k = 4) (h1 : (0 : Int) = x.n) (h4 : (x.n == (x.l.length : Int)) = true) : fineR d x = true := by
 rw [fine4 hk, ← h1, len_of h1 h4]; rfl
theorem no3 {d : Nat} {x : Rep} (hk : x.k = 3) (h : ¬ x.s.toList = [] ∨ ((0 : Int) == (x.l.length : Int)) = false) : fineR d x = false := by
 rw [fine3 hk]
 rcases h with h | h
 ·rw [to_nil] at h; simp [h]
 ·have : ¬ x.l.length = 0 := by simp at h; omega
  simp at this; simp [this]
theorem len0_of {k : Nat} (h : ((0 : Int) == (k : Int)) = true) : k = 0 := by simp at h; omega
theorem yes3 {d : Nat} {x : Rep} (hk : x.k = 3) (h1 : x.s.toList = []) (h4 : ((0 : Int) == (x.l.length : Int)) = true) : fineR d x = true := by
 rw [fine3 hk, to_nil.1 h1, len0_of h4]; rfl
end Go.Proofs.YtlfihdcgbhdajaaGreatDoor
