/- Small lemmas that all texts of this seat share: equations between endings, the frame of calls that only make new blocks, draws. -/
import Derived.WalkKit
import Derived.BigQuiet
import Derived.WalkSpells
import Derived.WalkLawsBesides
import Derived.Lib.Hide
import Derived.Deep.QuietTactic
import Derived.Sort.Grow
import Derived.Deep.RegionWith
namespace Go.Proofs.YthknpnhiijbgfaaDoor
open Go.RowKit
set_option linter.unusedVariables false

theorem int_eq {k : IntKind} {a b : Int} (h : a = b) : Value.int k a = Value.int k b := by rw [h]
theorem bool_eq {a b : Bool} (h : a = b) : Value.bool a = Value.bool b := by rw [h]
theorem ret_of {x x' : Value} (h : x = x') : Ending.returned x = Ending.returned x' := by rw [h]
theorem ret2_of {x y x' y' : Value} (h : x = x' ∧ y = y') : Ending.returned (.tuple #[x, y]) = Ending.returned (.tuple #[x', y']) := by rw [h.1, h.2]
theorem ret3_of {x y z x' y' z' : Value} (h : x = x' ∧ y = y' ∧ z = z') : Ending.returned (.tuple #[x, y, z]) = Ending.returned (.tuple #[x', y', z']) := by rw [h.1, h.2.1, h.2.2]

/-- Only new blocks: what was there is as it was. -/
def Ext (w w' : World) : Prop := Below w.heap.size w w'
theorem Ext.refl (w : World) : Ext w w := Below.refl _ _
theorem Ext.trans {a b c : World} (h : Ext a b) (k : Ext b c) : Ext a c :=
  Below.trans h (Below.mono k h.size)
theorem Ext.drew {a w : World} (h : Ext a w) : Ext a w.drew := Below.drew h
theorem Ext.drewN {a w : World} (h : Ext a w) (n : Nat) : Ext a (w.drewN n) := ⟨h.os, h.tape, h.output, h.size, h.block⟩
theorem Ext.alloc {a w : World} (h : Ext a w) (o : Obj) : Ext a (w.alloc o) := Below.alloc h h.size o
theorem Ext.setCell {a w : World} (h : Ext a w) {p : Addr} (hp : a.heap.size ≤ p.block) (u : Value) : Ext a (w.setCell p u) := Below.setCell h hp u
theorem Ext.grow {a w : World} (h : Ext a w) (k : Nat) (os : Array Obj) : Ext a (Go.Sort.grow (w.drewN k) os) :=
  Ext.trans h ⟨rfl, rfl, rfl, by simp [Go.Sort.grow, World.drewN], fun k hk => by simp [Go.Sort.grow, World.drewN, Array.getElem?_append, hk]⟩
theorem Ext.cells {w w' : World} (h : Ext w w') : (∀ b o, b < w.heap.size → w'.cell? ⟨b, o, none⟩ = w.cell? ⟨b, o, none⟩) ∧ (∀ b o, b < w.heap.size → w'.frozen? ⟨b, o, none⟩ = w.frozen? ⟨b, o, none⟩) :=
  ⟨fun b o hb => Below.cell h (p := ⟨b, o, none⟩) hb, fun b o hb => Below.frozen h (p := ⟨b, o, none⟩) hb⟩
theorem Ext.le {w w' : World} (h : Ext w w') : w.heap.size ≤ w'.heap.size := h.size

/-- Only block g, and what is new, has turned. -/
def Only (g : Nat) (w w' : World) : Prop := w.grownBy w' (some g)
theorem Only.refl (g : Nat) (w : World) : Only g w w := World.grownBy.refl w _
theorem Only.of_ext {g : Nat} {w w' : World} (h : Ext w w') : Only g w w' := ⟨h.os, h.tape, h.output, h.size, fun k hk _ => h.block k hk⟩
theorem Only.trans {g : Nat} {a b c : World} (h : Only g a b) (k : Only g b c) : Only g a c :=
  ⟨k.os.trans h.os, k.tape.trans h.tape, k.output.trans h.output, Nat.le_trans h.size k.size, fun i hi hn => (k.block i (Nat.lt_of_lt_of_le hi h.size) hn).trans (h.block i hi hn)⟩
theorem Only.ext {g : Nat} {a b c : World} (h : Only g a b) (k : Ext b c) : Only g a c := h.trans (.of_ext k)
theorem Only.drew {g : Nat} {a w : World} (h : Only g a w) : Only g a w.drew := h.ext (Ext.refl w).drew
theorem Only.alloc {g : Nat} {a w : World} (h : Only g a w) (o : Obj) : Only g a (w.alloc o) := h.ext ((Ext.refl w).alloc o)
theorem Only.setCell {g : Nat} {a w : World} (h : Only g a w) {p : Addr} (hp : p.block = g ∨ a.heap.size ≤ p.block) (u : Value) : Only g a (w.setCell p u) :=
  ⟨h.os, h.tape, h.output, by simpa [World.setCell] using h.size, fun i hi hne => (Below.heap_setCell w p u i (by
    rintro rfl
    rcases hp with hp | hp
    · exact hne (by rw [hp])
    · omega)).trans (h.block i hi hne)⟩
theorem Only.cells {g : Nat} {w w' : World} (h : Only g w w') : (∀ b o, b < w.heap.size → ¬ b = g → w'.cell? ⟨b, o, none⟩ = w.cell? ⟨b, o, none⟩) ∧ (∀ b o, b < w.heap.size → ¬ b = g → w'.frozen? ⟨b, o, none⟩ = w.frozen? ⟨b, o, none⟩) :=
  ⟨fun b _ hb hn => World.cell?_of_block (h.block b hb (fun e => hn (Option.some.inj e))), fun b _ hb hn => World.frozen?_of_block (h.block b hb (fun e => hn (Option.some.inj e)))⟩
theorem Only.to_ext {g : Nat} {a w w' : World} (h : Only g w w') (he : Ext a w) (hg : a.heap.size ≤ g) : Ext a w' :=
  ⟨h.os.trans he.os, h.tape.trans he.tape, h.output.trans he.output, Nat.le_trans he.size h.size, fun i hi => (h.block i (Nat.lt_of_lt_of_le hi he.size) (fun e => by have := Option.some.inj e; omega)).trans (he.block i hi)⟩
theorem Only.le {g : Nat} {w w' : World} (h : Only g w w') : w.heap.size ≤ w'.heap.size := h.size

theorem size_alloc (w : World) (o : Obj) : (w.alloc o).heap.size = w.heap.size + 1 := by show (w.heap.push o).size = _; simp
theorem Only.lt1 {g : Nat} {w w' : World} {o : Obj} (h : Only g (w.alloc o) w') : w.heap.size < w'.heap.size := by
  have := h.le; rw [size_alloc] at this; omega
theorem Only.lt2 {g : Nat} {w w' : World} {o p : Obj} (h : Only g ((w.alloc o).alloc p) w') : w.heap.size < w'.heap.size ∧ w.heap.size + 1 < w'.heap.size := by
  have := h.le; rw [size_alloc, size_alloc] at this; omega
theorem Only.lt3 {g : Nat} {w w' : World} {o p q : Obj} (h : Only g (((w.alloc o).alloc p).alloc q) w') : w.heap.size < w'.heap.size ∧ w.heap.size + 1 < w'.heap.size ∧ w.heap.size + 2 < w'.heap.size := by
  have := h.le; rw [size_alloc, size_alloc, size_alloc] at this; omega
theorem Ext.lt1 {w w' : World} {o : Obj} (h : Ext (w.alloc o) w') : w.heap.size < w'.heap.size := by
  have := h.le; rw [size_alloc] at this; omega
theorem Ext.lt2 {w w' : World} {o p : Obj} (h : Ext ((w.alloc o).alloc p) w') : w.heap.size < w'.heap.size ∧ w.heap.size + 1 < w'.heap.size := by
  have := h.le; rw [size_alloc, size_alloc] at this; omega
theorem Ext.lt3 {w w' : World} {o p q : Obj} (h : Ext (((w.alloc o).alloc p).alloc q) w') : w.heap.size < w'.heap.size ∧ w.heap.size + 1 < w'.heap.size ∧ w.heap.size + 2 < w'.heap.size := by
  have := h.le; rw [size_alloc, size_alloc, size_alloc] at this; omega

/-- A block that is known whole. -/
def Blk (w : World) (g : Nat) (t : TypeId) (cs : Array Value) : Prop := w.heap[g]? = some (.cells cs t (0, 0))
theorem Blk.lt {w : World} {g : Nat} {t : TypeId} {cs : Array Value} (h : Blk w g t cs) : g < w.heap.size := by
  rcases Nat.lt_or_ge g w.heap.size with hlt | hge
  · exact hlt
  · unfold Blk at h; rw [Array.getElem?_eq_none hge] at h; cases h
theorem Blk.cell {w : World} {g : Nat} {t : TypeId} {cs : Array Value} (h : Blk w g t cs) (i : Nat) : w.cell? ⟨g, i, none⟩ = cs[i]? := cell_of_row w g i cs t (0, 0) h
theorem Blk.frozen {w : World} {g : Nat} {t : TypeId} {cs : Array Value} (h : Blk w g t cs) (i : Nat) : w.frozen? ⟨g, i, none⟩ = false := by
  unfold Blk at h
  simp [World.frozen?, h]
theorem Blk.new (w : World) (t : TypeId) (cs : Array Value) : Blk (w.alloc (.cells cs t)) w.heap.size t cs := heap_alloc_new w _
theorem Blk.drew {w : World} {g : Nat} {t : TypeId} {cs : Array Value} (h : Blk w g t cs) : Blk w.drew g t cs := h
theorem Blk.drewN {w : World} {g : Nat} {t : TypeId} {cs : Array Value} (h : Blk w g t cs) (n : Nat) : Blk (w.drewN n) g t cs := h
theorem Blk.alloc {w : World} {g : Nat} {t : TypeId} {cs : Array Value} (h : Blk w g t cs) (o : Obj) : Blk (w.alloc o) g t cs := (Below.heap_alloc w o g h.lt).trans h
theorem Blk.set_ {w : World} {g : Nat} {t : TypeId} {cs : Array Value} (h : Blk w g t cs) (i : Nat) (u : Value) : Blk (w.setCell ⟨g, i, none⟩ u) g t (cs.setIfInBounds i u) := by
  unfold Blk at h ⊢
  simp [World.setCell, Array.getElem?_modify, h]
theorem Blk.far {w : World} {g : Nat} {t : TypeId} {cs : Array Value} (h : Blk w g t cs) {p : Addr} (hp : g ≠ p.block) (u : Value) : Blk (w.setCell p u) g t cs := (Below.heap_setCell w p u g hp).trans h
theorem Blk.ext {w w' : World} {g : Nat} {t : TypeId} {cs : Array Value} (h : Blk w g t cs) (hb : Ext w w') : Blk w' g t cs := (hb.block g h.lt).trans h
theorem Blk.only {w w' : World} {g g' : Nat} {t : TypeId} {cs : Array Value} (h : Blk w g t cs) (hb : Only g' w w') (hg : g ≠ g') : Blk w' g t cs := (hb.block g h.lt (fun e => hg (Option.some.inj e))).trans h

/-- A drawn region whose operations and callees leave what was there as it was. -/
theorem wp_region_ext {P : Program} {id : Nat} {Q : Exit → Act → World → Prop} {a : Act} {w : World} {l : List Oper} (hm : P.follows .mixedOrders = true) (hB : Region.lexB .any l.toArray = true)
    (h : wpQuiet P l.toArray (fun w' => Ext w w') (fun a' => ∀ w', Ext w w' → Q .normal a' w') l a) : (Code.region id l.toArray true).wp P Q a w :=
  wp_region_quiet (C := fun w' => Ext w w') hm hB ((Ext.refl w).drew) (by simpa using h)
theorem Calls.ext_of {P : Program} {f : FuncId} {args : Array Value} {w W : World} {v : Value} (hW : Ext w W)
    (h : Calls P f args W fun e w' => e = .returned v ∧ Ext W w') : Calls P f args W fun e w'' => e = .returned v ∧ Ext w w'' :=
  h.mono fun _ _ ⟨he, hb⟩ => ⟨he, hW.trans hb⟩
end Go.Proofs.YthknpnhiijbgfaaDoor
