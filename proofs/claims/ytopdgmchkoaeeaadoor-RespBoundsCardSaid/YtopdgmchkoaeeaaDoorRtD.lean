/- A reply that is laid: what lies where; how it goes on. -/
import Derived.Test.YtopdgmchkoaeeaaDoorRtC
import Derived.Test.YtopdgmchkoaeeaaDoorRsO
namespace Go.Proofs.YtopdgmchkoaeeaaDoor
open Go.RowKit
set_option linter.unusedVariables false
set_option linter.unusedSimpArgs false

/-- Blocks that are neither a builder's, a buffer's nor an int are as they were. -/
def KeepL (w w' : World) : Prop := ∀ i t cs, Blk w i t cs → t ≠ 73 → t ≠ 5 → t ≠ 3 → Blk w' i t cs
theorem KeepL.refl (w : World) : KeepL w w := fun _ _ _ h _ _ _ => h
theorem KeepL.trans {a b c : World} (h : KeepL a b) (k : KeepL b c) : KeepL a c := fun i t cs x h1 h2 h3 => k i t cs (h i t cs x h1 h2 h3) h1 h2 h3
theorem KeepL.ext {a b : World} (h : Ext a b) : KeepL a b := fun i t cs x _ _ _ => x.ext h
theorem KeepL.keep {a b : World} (h : Keep a b) : KeepL a b := fun i t cs x h1 h2 _ => h i t cs x h1 h2
theorem KeepL.set {a b : World} {g : Nat} {cs : Array Value} (h : KeepL a b) (hg : Blk b g 3 cs) (i : Nat) (u : Value) : KeepL a (b.setCell ⟨g, i, none⟩ u) := fun j t cs' x h1 h2 h3 => by
  have hx := h j t cs' x h1 h2 h3
  refine hx.far (p := ⟨g, i, none⟩) ?_ u
  show j ≠ g
  rintro rfl
  unfold Blk at hx hg
  rw [hg] at hx
  have e : (3 : TypeId) = t := by injection hx with hx; injection hx
  exact h3 e.symm
/-- The values that lay leans on. -/
structure EncAt (w : World) (B tb ib bb fb : Nat) (T I : Nat) (l : List UInt8) : Prop where
  bld : BldAt B bb l w
  t : Blk w tb 3 #[.int .i64 (T : Int)]
  i : Blk w ib 3 #[.int .i64 (I : Int)]
  f : Blk w fb 97 #[.func (.func 54) #[] #[.pointer (some ⟨tb, 0, none⟩), .pointer (some ⟨ib, 0, none⟩), .pointer (some ⟨bb, 0, none⟩), .pointer (some ⟨fb, 0, none⟩)]]
  hb : B ≤ tb ∧ B ≤ ib ∧ B ≤ bb ∧ B ≤ fb ∧ tb ≠ ib
  base : B ≤ w.heap.size
  pow : Pow w ∧ (1 : Nat) < B
theorem Blk.builder {w : World} {B b : Nat} {l : List UInt8} (h : BldAt B b l w) : ∃ cs, Blk w b 73 cs := by
  rcases h with ⟨_, v, hb, _⟩ | ⟨_, v, hb, _⟩ <;> exact ⟨_, hb⟩
theorem Blk.kinds {w : World} {g g' : Nat} {t t' : TypeId} {cs cs' : Array Value} (h : Blk w g t cs) (h' : Blk w g' t' cs') (ht : t ≠ t') : g ≠ g' := by
  rintro rfl
  unfold Blk at h h'
  rw [h] at h'
  have e : t = t' := by injection h' with h'; injection h'
  exact ht e
theorem EncAt.ext {w w' : World} {B tb ib bb fb T I : Nat} {l : List UInt8} (h : EncAt w B tb ib bb fb T I l) (he : Ext w w') : EncAt w' B tb ib bb fb T I l :=
  ⟨h.bld.ext he, h.t.ext he, h.i.ext he, h.f.ext he, h.hb, Nat.le_trans h.base he.le, h.pow.1.ext he, h.pow.2⟩
theorem Pow.below {w w' : World} {B : Nat} (h : Pow w) (he : Below B w w') (hg : (1 : Nat) < B) : Pow w' := h.of_same (he.block _ hg)
theorem bld_far {B b : Nat} {l : List UInt8} {w : World} {g : Nat} {cs : Array Value} (h : BldAt B b l w) (hg : Blk w g 3 cs) (i : Nat) (u : Value) : BldAt B b l (w.setCell ⟨g, i, none⟩ u) := by
  have key : ∀ p, Lib.BuilderAt 73 5 B b p (Lib.byteCells l) w → Lib.BuilderAt 73 5 B b p (Lib.byteCells l) (w.setCell ⟨g, i, none⟩ u) := by
    rintro p ⟨hB, v, hb, ⟨hl, ho⟩, hn⟩
    have hne : b ≠ g := Blk.kinds (show Blk w b 73 _ from hb) hg (by decide)
    refine ⟨hB, v, (Below.heap_setCell w ⟨g, i, none⟩ u b hne).trans hb, ⟨hl, ?_⟩, hn⟩
    rcases ho with ho | ⟨g', cap, cur, e, hb', hh, h2⟩
    · exact .inl ho
    · have hne' : g' ≠ g := Blk.kinds (show Blk w g' 5 cur from hh) hg (by decide)
      exact .inr ⟨g', cap, cur, e, hb', (Below.heap_setCell w ⟨g, i, none⟩ u g' hne').trans hh, h2⟩
  exact h.imp (key _) (key _)
theorem EncAt.sub {w : World} {B tb ib bb fb T I T' I' : Nat} {l : List UInt8} (h : EncAt w B tb ib bb fb T I l) :
    EncAt ((w.setCell ⟨tb, 0, none⟩ (.int .i64 (T' : Int))).setCell ⟨ib, 0, none⟩ (.int .i64 (I' : Int))) B tb ib bb fb T' I' l := by
  have hne := h.hb.2.2.2.2
  have t1 : Blk (w.setCell ⟨tb, 0, none⟩ (.int .i64 (T' : Int))) tb 3 #[.int .i64 (T' : Int)] := by simpa using h.t.set_ 0 (.int .i64 (T' : Int))
  have i1 : Blk (w.setCell ⟨tb, 0, none⟩ (.int .i64 (T' : Int))) ib 3 #[.int .i64 (I : Int)] := h.i.far (by show ib ≠ tb; exact hne.symm) _
  have hz : ((w.setCell ⟨tb, 0, none⟩ (.int .i64 (T' : Int))).setCell ⟨ib, 0, none⟩ (.int .i64 (I' : Int))).heap.size = w.heap.size := by
    rw [World.size_setCell, World.size_setCell]
  have bl : Below B w ((w.setCell ⟨tb, 0, none⟩ (.int .i64 (T' : Int))).setCell ⟨ib, 0, none⟩ (.int .i64 (I' : Int))) := ((Below.refl B w).setCell (p := ⟨tb, 0, none⟩) h.hb.1 _).setCell (p := ⟨ib, 0, none⟩) h.hb.2.1 _
  exact ⟨bld_far (bld_far h.bld h.t 0 _) i1 0 _, t1.far (by show tb ≠ ib; exact hne) _, by simpa using i1.set_ 0 (.int .i64 (I' : Int)),
    (h.f.far (by show fb ≠ tb; exact h.f.kinds h.t (by decide)) _).far (by show fb ≠ ib; exact h.f.kinds h.i (by decide)) _, h.hb, by rw [hz]; exact h.base, h.pow.1.below bl h.pow.2, h.pow.2⟩
theorem EncAt.write {w w' : World} {B tb ib bb fb T I : Nat} {l l' : List UInt8} (h : EncAt w B tb ib bb fb T I l) (hw : BldAt B bb l' w') (hb : Below B w w') (hk : Keep w w') : EncAt w' B tb ib bb fb T I l' :=
  ⟨hw, hk _ _ _ h.t (by decide) (by decide), hk _ _ _ h.i (by decide) (by decide), hk _ _ _ h.f (by decide) (by decide), h.hb, Nat.le_trans h.base hb.size, h.pow.1.below hb h.pow.2, h.pow.2⟩
/-- May a reply be laid yet? -/
def layOk (d : Nat) (x : Rep) (T I : Nat) : Bool := fineR d x && decide (txR x ≤ T) && decide (itR x ≤ I)
/-- What lay leaves. -/
def LayE (w : World) (B tb ib bb fb T I : Nat) (l : List UInt8) (d : Nat) (x : Rep) (e : Ending) (w' : World) : Prop :=
  Below B w w' ∧ KeepL w w' ∧ (if layOk d x T I = true then e = .returned (.tuple #[]) ∧ EncAt w' B tb ib bb fb (T - txR x) (I - itR x) (l ++ encR x) else Gave 2 e)
theorem LayE.no {w w' : World} {B tb ib bb fb T I : Nat} {l : List UInt8} {d : Nat} {x : Rep} {e : Ending} (h : layOk d x T I = false) (h1 : Below B w w') (h2 : KeepL w w') (he : Gave 2 e) : LayE w B tb ib bb fb T I l d x e w' :=
  ⟨h1, h2, by rw [if_neg (by rw [h]; decide)]; exact he⟩
theorem LayE.yes {w w' : World} {B tb ib bb fb T I : Nat} {l : List UInt8} {d : Nat} {x : Rep} {e : Ending} (h : layOk d x T I = true) (h1 : Below B w w') (h2 : KeepL w w') (he : e = .returned (.tuple #[])) (h3 : EncAt w' B tb ib bb fb (T - txR x) (I - itR x) (l ++ encR x)) : LayE w B tb ib bb fb T I l d x e w' :=
  ⟨h1, h2, by rw [if_pos h]; exact ⟨he, h3⟩⟩
/-- What holds behind the bounds' test. -/
structure LayAt (w w4 : World) (B tb ib bb fb T I : Nat) (l : List UInt8) (x : Rep) (lv b1 b2 b3 : Value) : Prop where
  enc : EncAt w4 B tb ib bb fb T I l
  box : Blk w4 w.heap.size 41 #[.int .i64 x.k, .int .i64 x.n, .string x.s, lv]
  bare : Blk w4 (w.heap.size + 1) 41 #[.int .i64 x.k, b1, b2, b3]
  below : Below B w w4
  keep : KeepL w w4
theorem LayAt.write {w w4 w5 : World} {B tb ib bb fb T I : Nat} {l l' : List UInt8} {x : Rep} {lv b1 b2 b3 : Value} (h : LayAt w w4 B tb ib bb fb T I l x lv b1 b2 b3) (hw : BldAt B bb l' w5) (hb : Below B w4 w5) (hk : Keep w4 w5) : LayAt w w5 B tb ib bb fb T I l' x lv b1 b2 b3 :=
  ⟨h.enc.write hw hb hk, hk _ _ _ h.box (by decide) (by decide), hk _ _ _ h.bare (by decide) (by decide), h.below.trans hb, h.keep.trans (KeepL.keep hk)⟩
theorem LayAt.ext {w w4 w5 : World} {B tb ib bb fb T I : Nat} {l : List UInt8} {x : Rep} {lv b1 b2 b3 : Value} (h : LayAt w w4 B tb ib bb fb T I l x lv b1 b2 b3) (he : Ext w4 w5) : LayAt w w5 B tb ib bb fb T I l x lv b1 b2 b3 :=
  ⟨h.enc.ext he, h.box.ext he, h.bare.ext he, h.below.trans (Below.mono he h.enc.base), h.keep.trans (KeepL.ext he)⟩
theorem bld_off {B b : Nat} {l : List UInt8} {w : World} {g : Nat} {t : TypeId} {cs : Array Value} (h : BldAt B b l w) (hg : Blk w g t cs) (h1 : t ≠ 73) (h2 : t ≠ 5) (i : Nat) (u : Value) : BldAt B b l (w.setCell ⟨g, i, none⟩ u) := by
  have key : ∀ p, Lib.BuilderAt 73 5 B b p (Lib.byteCells l) w → Lib.BuilderAt 73 5 B b p (Lib.byteCells l) (w.setCell ⟨g, i, none⟩ u) := by
    rintro p ⟨hB, v, hb, ⟨hl, ho⟩, hn⟩
    have hne : b ≠ g := Blk.kinds (show Blk w b 73 _ from hb) hg h1.symm
    refine ⟨hB, v, (Below.heap_setCell w ⟨g, i, none⟩ u b hne).trans hb, ⟨hl, ?_⟩, hn⟩
    rcases ho with ho | ⟨g', cap, cur, e, hb', hh, h3⟩
    · exact .inl ho
    · have hne' : g' ≠ g := Blk.kinds (show Blk w g' 5 cur from hh) hg h2.symm
      exact .inr ⟨g', cap, cur, e, hb', (Below.heap_setCell w ⟨g, i, none⟩ u g' hne').trans hh, h3⟩
  exact h.imp (key _) (key _)
/-- A cell of the bare reply is set. -/
theorem LayAt.put {w w4 : World} {B tb ib bb fb T I : Nat} {l : List UInt8} {x : Rep} {lv b1 b2 b3 c1 c2 c3 : Value} (h : LayAt w w4 B tb ib bb fb T I l x lv b1 b2 b3) (i : Nat) (u : Value) (hw : (#[.int .i64 x.k, b1, b2, b3] : Array Value).setIfInBounds i u = #[.int .i64 x.k, c1, c2, c3]) (hl : B ≤ w.heap.size) :
    LayAt w (w4.setCell ⟨w.heap.size + 1, i, none⟩ u) B tb ib bb fb T I l x lv c1 c2 c3 := by
  have bl : Below B w4 (w4.setCell ⟨w.heap.size + 1, i, none⟩ u) := (Below.refl B w4).setCell (p := ⟨w.heap.size + 1, i, none⟩) (by show B ≤ w.heap.size + 1; omega) u
  refine ⟨⟨bld_off h.enc.bld h.bare (by decide) (by decide) i u, h.enc.t.far (by show tb ≠ w.heap.size + 1; exact h.enc.t.kinds h.bare (by decide)) _, h.enc.i.far (by show ib ≠ w.heap.size + 1; exact h.enc.i.kinds h.bare (by decide)) _, h.enc.f.far (by show fb ≠ w.heap.size + 1; exact h.enc.f.kinds h.bare (by decide)) _, h.enc.hb, by rw [World.size_setCell]; exact h.enc.base, h.enc.pow.1.below bl h.enc.pow.2, h.enc.pow.2⟩,
    h.box.far (by show w.heap.size ≠ w.heap.size + 1; omega) _, by rw [← hw]; exact h.bare.set_ i u, h.below.trans bl, fun j t cs hx h1 h2 h3 => ?_⟩
  have hlt := hx.lt
  exact (h.keep j t cs hx h1 h2 h3).far (p := ⟨w.heap.size + 1, i, none⟩) (by show j ≠ w.heap.size + 1; omega) _
theorem lay_start (w : World) {B tb ib bb fb T I T' I' : Nat} {l : List UInt8} (x : Rep) (lv : Value) (h : EncAt w B tb ib bb fb T I l) :
    LayAt w ((((w.setCell ⟨tb, 0, none⟩ (.int .i64 (T' : Int))).setCell ⟨ib, 0, none⟩ (.int .i64 (I' : Int))).alloc (.cells #[.int .i64 x.k, .int .i64 x.n, .string x.s, lv] 41)).alloc (.cells #[.int .i64 x.k, .int .i64 0, .string ⟨#[]⟩, .slice none 0 0] 41)) B tb ib bb fb T' I' l x lv (.int .i64 0) (.string ⟨#[]⟩) (.slice none 0 0) := by
  have h2 := h.sub (T' := T') (I' := I')
  have i1 : Blk (w.setCell ⟨tb, 0, none⟩ (.int .i64 (T' : Int))) ib 3 #[.int .i64 (I : Int)] := h.i.far (by show ib ≠ tb; exact h.hb.2.2.2.2.symm) _
  have K := ((KeepL.refl w).set h.t 0 (.int .i64 (T' : Int))).set i1 0 (.int .i64 (I' : Int))
  have bl : Below B w ((w.setCell ⟨tb, 0, none⟩ (.int .i64 (T' : Int))).setCell ⟨ib, 0, none⟩ (.int .i64 (I' : Int))) := ((Below.refl B w).setCell (p := ⟨tb, 0, none⟩) h.hb.1 _).setCell (p := ⟨ib, 0, none⟩) h.hb.2.1 _
  have hz : ((w.setCell ⟨tb, 0, none⟩ (.int .i64 (T' : Int))).setCell ⟨ib, 0, none⟩ (.int .i64 (I' : Int))).heap.size = w.heap.size := by
    rw [World.size_setCell, World.size_setCell]
  generalize (w.setCell ⟨tb, 0, none⟩ (.int .i64 (T' : Int))).setCell ⟨ib, 0, none⟩ (.int .i64 (I' : Int)) = w1 at h2 K bl hz ⊢
  have hE : Ext w1 ((w1.alloc (.cells #[.int .i64 x.k, .int .i64 x.n, .string x.s, lv] 41)).alloc (.cells #[.int .i64 x.k, .int .i64 0, .string ⟨#[]⟩, .slice none 0 0] 41)) := ((Ext.refl w1).alloc _).alloc _
  have bx : Blk ((w1.alloc (.cells #[.int .i64 x.k, .int .i64 x.n, .string x.s, lv] 41)).alloc (.cells #[.int .i64 x.k, .int .i64 0, .string ⟨#[]⟩, .slice none 0 0] 41)) w.heap.size 41 #[.int .i64 x.k, .int .i64 x.n, .string x.s, lv] := by
    rw [← hz]; exact (Blk.new w1 _ _).alloc _
  have br : Blk ((w1.alloc (.cells #[.int .i64 x.k, .int .i64 x.n, .string x.s, lv] 41)).alloc (.cells #[.int .i64 x.k, .int .i64 0, .string ⟨#[]⟩, .slice none 0 0] 41)) (w.heap.size + 1) 41 #[.int .i64 x.k, .int .i64 0, .string ⟨#[]⟩, .slice none 0 0] := by
    rw [← hz]; exact new_at (size_alloc _ _).symm _ _
  exact ⟨h2.ext hE, bx, br, Below.trans bl (Below.mono hE h2.base), K.trans (KeepL.ext hE)⟩
theorem its_len' (n : Int) (h0 : -9223372036854775808 ≤ n) (h1 : n ≤ 9223372036854775807) : (Lib.itoa n).length ≤ 21 := Lib.itoa_length_le n h0 h1
theorem dec_len (n : Nat) (h : n ≤ 9223372036854775807) : (Lib.decDigits n).length ≤ 21 := by
  have := its_len' (n : Int) (by omega) (by omega)
  rwa [Lib.itoa_nonneg] at this
mutual
theorem encR_len : ∀ (x : Rep), i64R x → txR x ≤ 1048576 → itR x ≤ 65536 → (encR x).length ≤ 30 * (1 + itR x) + txR x
  | .mk k n s l, h6, ht, hi => by
    simp only [txR, itR, i64R] at ht hi h6 ⊢
    have hl := encL_len l h6.2 (by omega) (by omega)
    have hs : s.data.toList.length = s.size := rfl
    have h1 := its_len' n h6.1.1 h6.1.2
    have h2 := dec_len l.length (by omega)
    have h3 := textB_len s (by omega)
    simp only [encR]
    split
    · simp only [List.length_cons, List.length_nil]; omega
    · split
      · simp only [lineB, List.length_cons, List.length_append, List.length_nil]; omega
      · split
        · simp only [lineB, List.length_cons, List.length_append, List.length_nil]; omega
        · split
          · simp only [lineB, List.length_cons, List.length_append, List.length_nil]; omega
          · split
            · omega
            · simp only [lineB, List.length_cons, List.length_append, List.length_nil]; omega
theorem encL_len : ∀ (l : List Rep), i64L l → txL l ≤ 1048576 → itL l ≤ 65536 → (encL l).length ≤ 30 * (l.length + itL l) + txL l
  | [], h6, ht, hi => by simp [encL]
  | x :: l, h6, ht, hi => by
    simp only [txL, itL, i64L] at ht hi h6 ⊢
    have h1 := encR_len x h6.1 (by omega) (by omega)
    have h2 := encL_len l h6.2 (by omega) (by omega)
    simp only [encL, List.length_append, List.length_cons]
    omega
end
end Go.Proofs.YtopdgmchkoaeeaaDoor
