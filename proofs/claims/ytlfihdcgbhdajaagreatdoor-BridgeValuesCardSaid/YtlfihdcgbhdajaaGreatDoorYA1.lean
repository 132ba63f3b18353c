/- Small lemmas that all texts of this seat share: equations between endings, the frame of calls that only make new blocks, draws. Rows of the call's own: bytes and texts that are appended to; bytes as a text. Map literals whose keys are known, as they are made, entry by entry; what is looked up in them. A drawn region whose callees make memory: one walk, in the text's order. Maps that are written and looked up in whatever order: what is under a key; what stands in it. Rows of cells that are built, stored, loaded whole. -/
import Derived.WalkKit
import Derived.BigQuiet
import Derived.WalkSpells
import Derived.WalkLawsBesides
import Derived.Lib.Hide
import Derived.Deep.QuietTactic
import Derived.Sort.Grow
import Derived.Deep.RegionWith
import Derived.Test.YtlfihdcgbhdajaaGreatDoorProg
import Derived.Laws.OwnMore
import Derived.OwnWalk
import Derived.Deep.LoopGhost
import Derived.Lib.AppendStr
import Derived.Lib.Strings
import Derived.StillTailTactics
import Derived.Lib.Walk
import Derived.Deep.RegionHeld3
import Derived.Deep.DrawnRows
import Derived.ChangeMaps4
import Derived.MapKept
import Derived.Deep.WholeRow
import Derived.Laws.CopyOwn
import Derived.Laws.Rows
import Derived.ScopeJumps
import Derived.WalkMore
namespace Go.Proofs.YtlfihdcgbhdajaaGreatDoor
open Go.RowKit
set_option linter.unusedVariables false

theorem int_eq {k : IntKind} {a b : Int} (h : a = b) : Value.int k a = Value.int k b := by rw [h]
theorem bool_eq {a b : Bool} (h : a = b) : Value.bool a = Value.bool b := by rw [h]
theorem ret_of {x x' : Value} (h : x = x') : Ending.returned x = Ending.returned x' := by rw [h]
theorem ret2_of {x y x' y' : Value} (h : x = x' ∧ y = y') : Ending.returned (.tuple #[x, y]) = Ending.returned (.tuple #[x', y']) := by rw [h.1, h.2]
def Ext (w w' : World) : Prop := Below w.heap.size w w'
theorem Ext.refl (w : World) : Ext w w := Below.refl _ _
theorem Ext.trans {a b c : World} (h : Ext a b) (k : Ext b c) : Ext a c :=
 Below.trans h (Below.mono k h.size)
theorem Ext.drew {a w : World} (h : Ext a w) : Ext a w.drew := Below.drew h
theorem Ext.drewN {a w : World} (h : Ext a w) (n : Nat) : Ext a (w.drewN n) := ⟨h.os, h.tape, h.output, h.size, h.block⟩
theorem Ext.alloc {a w : World} (h : Ext a w) (o : Obj) : Ext a (w.alloc o) := Below.alloc h h.size o
theorem Ext.setCell {a w : World} (h : Ext a w) {p : Addr} (hp : a.heap.size ≤ p.block) (u : Value) : Ext a (w.setCell p u) := Below.setCell h hp u
theorem Ext.grow {a w : World} (h : Ext a w) (k : Nat) (os : Array Obj) : Ext a (Go.Sort.grow (w.drewN k) os) :=
 Ext.trans h ⟨rfl, rfl, rfl, by simp [Go.Sort.grow, World.drewN], fun k hk => by simp [Go.Sort.grow, World.drewN, Array.getElem?_append, hk]⟩
theorem Ext.cells {w w' : World} (h : Ext w w') : (∀ b o, b < w.heap.size → w'.cell? ⟨b, o, none⟩ = w.cell? ⟨b, o, none⟩) ∧ (∀ b o, b < w.heap.size → w'.frozen? ⟨b, o, none⟩ = w.frozen? ⟨b, o, none⟩) :=
 ⟨fun b o hb => Below.cell h (p := ⟨b, o, none⟩) hb, fun b o hb => Below.frozen h (p := ⟨b, o, none⟩) hb⟩
theorem Ext.le {w w' : World} (h : Ext w w') : w.heap.size ≤ w'.heap.size := h.size
def Only (g : Nat) (w w' : World) : Prop := w.grownBy w' (some g)
theorem Only.refl (g : Nat) (w : World) : Only g w w := World.grownBy.refl w _
theorem Only.of_ext {g : Nat} {w w' : World} (h : Ext w w') : Only g w w' := ⟨h.os, h.tape, h.output, h.size, fun k hk _ => h.block k hk⟩
theorem Only.trans {g : Nat} {a b c : World} (h : Only g a b) (k : Only g b c) : Only g a c :=
 ⟨k.os.trans h.os, k.tape.trans h.tape, k.output.trans h.output, Nat.le_trans h.size k.size, fun i hi hn => (k.block i (Nat.lt_of_lt_of_le hi h.size) hn).trans (h.block i hi hn)⟩
theorem Only.ext {g : Nat} {a b c : World} (h : Only g a b) (k : Ext b c) : Only g a c := h.trans (.of_ext k)
theorem Only.drew {g : Nat} {a w : World} (h : Only g a w) : Only g a w.drew := h.ext (Ext.refl w).drew
theorem Only.alloc {g : Nat} {a w : World} (h : Only g a w) (o : Obj) : Only g a (w.alloc o) := h.ext ((Ext.refl w).alloc o)
theorem Only.setCell {g : Nat} {a w : World} (h : Only g a w) {p : Addr} (hp : p.block = g ∨ a.heap.size ≤ p.block) (u : Value) : Only g a (w.setCell p u) :=
 ⟨h.os, h.tape, h.output, by simpa [World.setCell] using h.size, fun i hi hne => (Below.heap_setCell w p u i (by
  rintro rfl
  rcases hp with hp | hp
  ·exact hne (by rw [hp])
  ·omega)).trans (h.block i hi hne)⟩
theorem Only.cells {g : Nat} {w w' : World} (h : Only g w w') : (∀ b o, b < w.heap.size → ¬ b = g → w'.cell? ⟨b, o, none⟩ = w.cell? ⟨b, o, none⟩) ∧ (∀ b o, b < w.heap.size → ¬ b = g → w'.frozen? ⟨b, o, none⟩ = w.frozen? ⟨b, o, none⟩) :=
 ⟨fun b _ hb hn => World.cell?_of_block (h.block b hb (fun e => hn (Option.some.inj e))), fun b _ hb hn => World.frozen?_of_block (h.block b hb (fun e => hn (Option.some.inj e)))⟩
theorem Only.to_ext {g : Nat} {a w w' : World} (h : Only g w w') (he : Ext a w) (hg : a.heap.size ≤ g) : Ext a w' :=
 ⟨h.os.trans he.os, h.tape.trans he.tape, h.output.trans he.output, Nat.le_trans he.size h.size, fun i hi => (h.block i (Nat.lt_of_lt_of_le hi he.size) (fun e => by have := Option.some.inj e; omega)).trans (he.block i hi)⟩
theorem Only.le {g : Nat} {w w' : World} (h : Only g w w') : w.heap.size ≤ w'.heap.size := h.size
theorem size_alloc (w : World) (o : Obj) : (w.alloc o).heap.size = w.heap.size + 1 := by show (w.heap.push o).size = _; simp
theorem Only.lt1 {g : Nat} {w w' : World} {o : Obj} (h : Only g (w.alloc o) w') : w.heap.size < w'.heap.size := by
 have := h.le; rw [size_alloc] at this; omega
theorem Only.lt2 {g : Nat} {w w' : World} {o p : Obj} (h : Only g ((w.alloc o).alloc p) w') : w.heap.size < w'.heap.size ∧ w.heap.size + 1 < w'.heap.size := by
 have := h.le; rw [size_alloc, size_alloc] at this; omega
theorem Only.lt3 {g : Nat} {w w' : World} {o p q : Obj} (h : Only g (((w.alloc o).alloc p).alloc q) w') : w.heap.size < w'.heap.size ∧ w.heap.size + 1 < w'.heap.size ∧ w.heap.size + 2 < w'.heap.size := by
 have := h.le; rw [size_alloc, size_alloc, size_alloc] at this; omega
theorem Ext.lt1 {w w' : World} {o : Obj} (h : Ext (w.alloc o) w') : w.heap.size < w'.heap.size := by
 have := h.le; rw [size_alloc] at this; omega
theorem Ext.lt2 {w w' : World} {o p : Obj} (h : Ext ((w.alloc o).alloc p) w') : w.heap.size < w'.heap.size ∧ w.heap.size + 1 < w'.heap.size := by
 have := h.le; rw [size_alloc, size_alloc] at this; omega
theorem Ext.lt3 {w w' : World} {o p q : Obj} (h : Ext (((w.alloc o).alloc p).alloc q) w') : w.heap.size < w'.heap.size ∧ w.heap.size + 1 < w'.heap.size ∧ w.heap.size + 2 < w'.heap.size := by
 have := h.le; rw [size_alloc, size_alloc, size_alloc] at this; omega
def Blk (w : World) (g : Nat) (t : TypeId) (cs : Array Value) : Prop := w.heap[g]? = some (.cells cs t (0, 0))
theorem Blk.lt {w : World} {g : Nat} {t : TypeId} {cs : Array Value} (h : Blk w g t cs) : g < w.heap.size := by
 rcases Nat.lt_or_ge g w.heap.size with hlt | hge
 ·exact hlt
 ·unfold Blk at h; rw [Array.getElem?_eq_none hge] at h; cases h
theorem Blk.cell {w : World} {g : Nat} {t : TypeId} {cs : Array Value} (h : Blk w g t cs) (i : Nat) : w.cell? ⟨g, i, none⟩ = cs[i]? := cell_of_row w g i cs t (0, 0) h
theorem Blk.frozen {w : World} {g : Nat} {t : TypeId} {cs : Array Value} (h : Blk w g t cs) (i : Nat) : w.frozen? ⟨g, i, none⟩ = false := by
 unfold Blk at h
 simp [World.frozen?, h]
theorem Blk.new (w : World) (t : TypeId) (cs : Array Value) : Blk (w.alloc (.cells cs t)) w.heap.size t cs := heap_alloc_new w _
theorem Blk.drew {w : World} {g : Nat} {t : TypeId} {cs : Array Value} (h : Blk w g t cs) : Blk w.drew g t cs := h
theorem Blk.drewN {w : World} {g : Nat} {t : TypeId} {cs : Array Value} (h : Blk w g t cs) (n : Nat) : Blk (w.drewN n) g t cs := h
theorem Blk.alloc {w : World} {g : Nat} {t : TypeId} {cs : Array Value} (h : Blk w g t cs) (o : Obj) : Blk (w.alloc o) g t cs := (Below.heap_alloc w o g h.lt).trans h
theorem Blk.set_ {w : World} {g : Nat} {t : TypeId} {cs : Array Value} (h : Blk w g t cs) (i : Nat) (u : Value) : Blk (w.setCell ⟨g, i, none⟩ u) g t (cs.setIfInBounds i u) := by
 unfold Blk at h ⊢
 simp [World.setCell, Array.getElem?_modify, h]
theorem Blk.far {w : World} {g : Nat} {t : TypeId} {cs : Array Value} (h : Blk w g t cs) {p : Addr} (hp : g ≠ p.block) (u : Value) : Blk (w.setCell p u) g t cs := (Below.heap_setCell w p u g hp).trans h
theorem Blk.ext {w w' : World} {g : Nat} {t : TypeId} {cs : Array Value} (h : Blk w g t cs) (hb : Ext w w') : Blk w' g t cs := (hb.block g h.lt).trans h
theorem Blk.only {w w' : World} {g g' : Nat} {t : TypeId} {cs : Array Value} (h : Blk w g t cs) (hb : Only g' w w') (hg : g ≠ g') : Blk w' g t cs := (hb.block g h.lt (fun e => hg (Option.some.inj e))).trans h
theorem wp_region_ext {P : Program} {id : Nat} {Q : Exit → Act → World → Prop} {a : Act} {w : World} {l : List Oper} (hm : P.follows .mixedOrders = true) (hB : Region.lexB .any l.toArray = true)
  (h : wpQuiet P l.toArray (fun w' => Ext w w') (fun a' => ∀ w', Ext w w' → Q .normal a' w') l a) : (Code.region id l.toArray true).wp P Q a w :=
 wp_region_quiet (C := fun w' => Ext w w') hm hB ((Ext.refl w).drew) (by simpa using h)
theorem Calls.ext_of {P : Program} {f : FuncId} {args : Array Value} {w W : World} {v : Value} (hW : Ext w W)
  (h : Calls P f args W fun e w' => e = .returned v ∧ Ext W w') : Calls P f args W fun e w'' => e = .returned v ∧ Ext w w'' :=
 h.mono fun _ _ ⟨he, hb⟩ => ⟨he, hW.trans hb⟩
end Go.Proofs.YtlfihdcgbhdajaaGreatDoor
namespace Go.Proofs.YtlfihdcgbhdajaaGreatDoor
open Go.RowKit
set_option linter.unusedVariables false
set_option linter.unusedSimpArgs false

theorem own_of_heap {w w' : World} {base : Nat} {e : TypeId} {s : Nat} {v : Value} {n : Nat} {xs : List Value} (h : w.ownsRow base e s v n xs) (hh : ∀ g, base ≤ g → g < w.heap.size → w'.heap[g]? = w.heap[g]?) : w'.ownsRow base e s v n xs := by
 obtain ⟨hl, h⟩ := h
 refine ⟨hl, ?_⟩
 rcases h with h | ⟨g, cap, cur, e1, hb, hc, h2⟩
 ·exact .inl h
 ·have hg : g < w.heap.size := by
   rcases Nat.lt_or_ge g w.heap.size with h | h
   ·exact h
   ·rw [Array.getElem?_eq_none h] at hc; cases hc
  exact .inr ⟨g, cap, cur, e1, hb, (hh g hb hg).trans hc, h2⟩
theorem own_ext {w w' : World} {base : Nat} {e : TypeId} {s : Nat} {v : Value} {n : Nat} {xs : List Value} (h : w.ownsRow base e s v n xs) (ho : Ext w w') : w'.ownsRow base e s v n xs :=
 own_of_heap h fun k hk hl => ho.block k hl
theorem own_set {w : World} {base g i : Nat} {u : Value} {e : TypeId} {s : Nat} {v : Value} {n : Nat} {xs : List Value} (h : w.ownsRow base e s v n xs) (hg : g < base) : (w.setCell ⟨g, i, none⟩ u).ownsRow base e s v n xs :=
 own_of_heap h fun k hk hl => Below.heap_setCell w _ u k (by show k ≠ g; omega)
theorem Ext.grown {a b c : World} {row : Option Nat} (h : Ext a b) (hg : b.grownBy c row) (hr : ∀ x, row = some x → a.heap.size ≤ x) : Ext a c :=
 ⟨hg.os.trans h.os, hg.tape.trans h.tape, hg.output.trans h.output, Nat.le_trans h.size hg.size, fun k hk => (hg.block k (Nat.lt_of_lt_of_le hk h.size) (fun e => by have := hr k e.symm; omega)).trans (h.block k hk)⟩
theorem Blk.grown {w w' : World} {g : Nat} {t : TypeId} {cs : Array Value} {row : Option Nat} (h : Blk w g t cs) (hb : w.grownBy w' row) (hr : ∀ x, row = some x → ¬ g = x) : Blk w' g t cs :=
 (hb.block g h.lt (fun e => hr g e.symm rfl)).trans h
theorem wpList_append_run {P : Program} {w : World} {ops : Array Oper} {rest : List Oper} {o : Oper} {a : Act} {Q : Exit → Act → World → Prop} (hgd : o.guard = none) (s x : Operand) (t : TypeId)
  (ho : o.op = .call { callee := .builtin .append, args := #[s, x], argTypes := #[t, t] }) (v x' v' : Value) (w' : World) (hs : a.eval s = v) (hx : a.eval x = x')
  (hrun : (Builtin.append_ #[t, t] o.type #[v, x']).run P w = .ok v' w') (h : wpList P ops Q rest (a.put o.dst v') w') : wpList P ops Q (o :: rest) a w := by
 refine wpList_plain hgd fun K hK => ?_
 unfold Oper.wp execOp
 simp only [ho, resolve, invoke, builtin, Sem.run_bind, Sem.run_pure, Result.andThen_ok, List.map_toArray, List.map_cons, List.map_nil, hs, hx, hrun]
 exact hK _ _ h
def OwnB (w : World) (B : Nat) (v : Value) (l : List UInt8) : Prop := w.ownsRow B 5 1 v l.length (Lib.byteCells l)
theorem OwnB.nil (w : World) (B : Nat) : OwnB w B (.slice none 0 0) [] := World.ownsRow_nil _ _ _ _
theorem OwnB.ext {w w' : World} {B : Nat} {v : Value} {l : List UInt8} (h : OwnB w B v l) (he : Ext w w') : OwnB w' B v l := own_ext h he
theorem OwnB.slice {w : World} {B : Nat} {v : Value} {l : List UInt8} (h : OwnB w B v l) : ∃ q c, v = .slice q l.length c := by
 rcases h.2 with ⟨rfl, h0⟩ | ⟨g, cap, cur, rfl, _⟩
 ·exact ⟨none, 0, by rw [h0]⟩
 ·exact ⟨_, _, rfl⟩
theorem nums_str (l : List UInt8) : strOfNums (l.map fun c => (c.toNat : Int)) = ⟨l.toArray⟩ := by
 unfold strOfNums
 congr 2
 rw [List.map_map]
 conv => rhs; rw [← List.map_id l]
 exact List.map_congr_left fun c _ => by simp
theorem OwnB.conv {w : World} {B : Nat} {v : Value} {l : List UInt8} (h : OwnB w B v l) : (convert 103 9 v).run Tryz.prog w = .ok (.string ⟨l.toArray⟩) w := by
 rcases h.2 with ⟨rfl, h0⟩ | ⟨g, cap, cur, rfl, hb, hh, _⟩
 ·have hl := List.eq_nil_of_length_eq_zero h0
  subst hl
  rw [run_convert_bytes_string w 103 9 5 _ 0 0 Tryz.underlying103 Tryz.underlying5 Tryz.underlying9]
  rfl
 ·have e := run_convert_bytes_arg (P := Tryz.prog) w 103 5 Tryz.underlying103 Tryz.underlying5 g 0 l.length cap (l.map fun x => (x.toNat : Int)) (by simp) (fun k hk => by
   have h1 := World.ownsRow.cells h (g := g) rfl k (.int .u8 (l[k].toNat : Int)) (by simp [Lib.byteCells, List.getElem?_map, List.getElem?_eq_getElem hk])
   have hadd : (⟨g, 0, none⟩ : Addr).add k = ⟨g, 0 + k, none⟩ := by unfold Addr.add; split <;> simp_all
   rw [hadd] at h1
   rw [List.getD_eq_getElem?_getD, List.getElem?_map, List.getElem?_eq_getElem hk]
   exact h1) 9 Tryz.underlying9
  rw [nums_str] at e
  exact e
structure AppB (w : World) (B : Nat) (v : Value) (l : List UInt8) (w' : World) (v' : Value) : Prop where
 own : OwnB w' B v' l
 grow : w.grownBy w' v.ownBlock
 row : ∀ x, v.ownBlock = some x → B ≤ x
theorem AppB.ext {a w w' : World} {B : Nat} {v v' : Value} {l : List UInt8} (h : AppB w B v l w' v') (he : Ext a w) (hB : a.heap.size ≤ B) : Ext a w' :=
 he.grown h.grow fun x hx => Nat.le_trans hB (h.row x hx)
end Go.Proofs.YtlfihdcgbhdajaaGreatDoor
namespace Go.Proofs.YtlfihdcgbhdajaaGreatDoor
open Go.RowKit
set_option linter.unusedVariables false

def ents : List (Value × Value) → Nat → List MapEntry
 | [], _ => []
 | x :: l, i => ⟨x.1, x.2, i⟩ :: ents l (i + 1)
theorem ents_append (x : Value × Value) : ∀ (l : List (Value × Value)) (i : Nat), ents (l ++ [x]) i = ents l i ++ [⟨x.1, x.2, i + l.length⟩]
 | [], i => rfl
 | y :: l, i => by simp only [List.cons_append, ents, ents_append x l (i + 1), List.length_cons]; congr 3; simp [Nat.add_comm, Nat.add_left_comm]
def noKey (kind : TypeDesc) (k : Value) (l : List (Value × Value)) : Bool := l.all fun x => Instr.sameNow kind k x.1 == some false
def under (kind : TypeDesc) (k : Value) : List (Value × Value) → Option Value
 | [] => none
 | x :: l => if Instr.sameNow kind k x.1 = some true then some x.2 else if Instr.sameNow kind k x.1 = some false then under kind k l else none
theorem findNow_none {kind : TypeDesc} {k : Value} : ∀ {l : List (Value × Value)} (h : noKey kind k l = true) (i j : Nat), Instr.findNow kind k (ents l i) j = some none
 | [], _, _, _ => rfl
 | x :: l, h, i, j => by
  simp only [noKey, List.all_cons, Bool.and_eq_true, beq_iff_eq] at h
  simp only [ents, Instr.findNow, h.1]
  exact findNow_none (l := l) h.2 (i + 1) (j + 1)
theorem findNow_some {kind : TypeDesc} {k v : Value} : ∀ {l : List (Value × Value)} (h : under kind k l = some v) (i j : Nat), ∃ n, Instr.findNow kind k (ents l i) j = some (some (n, v))
 | x :: l, h, i, j => by
  unfold under at h
  split at h
  ·rename_i h1
   obtain rfl := Option.some.inj h
   exact ⟨j, by simp only [ents, Instr.findNow, h1]⟩
  ·split at h
   ·rename_i h2
    obtain ⟨n, hn⟩ := findNow_some (l := l) h (i + 1) (j + 1)
    exact ⟨n, by simp only [ents, Instr.findNow, h2]; exact hn⟩
   ·cases h
theorem alloc_set (w : World) (o o' : Obj) : ({ w.alloc o with heap := (w.alloc o).heap.setIfInBounds w.heap.size o' } : World) = w.alloc o' := by
 have e : (w.heap.push o).setIfInBounds w.heap.size o' = w.heap.push o' := by
  apply Array.ext_getElem?
  intro i
  simp only [Array.getElem?_setIfInBounds, Array.getElem?_push, Array.size_push]
  split <;> split <;> simp_all <;> omega
 show ({ w with heap := (w.heap.push o).setIfInBounds w.heap.size o' } : World) = { w with heap := w.heap.push o' }
 rw [e]
section
variable {P : Program} {T K E : TypeId} {kind : TypeDesc}
def plainKind : TypeDesc → Bool
 | .int _ | .string => true
 | _ => false
theorem run_checkKey_plain (hK : P.underlying K = some kind) (hk : plainKind kind = true) (b : Bool) (k : Value) (w : World) : (Instr.checkKey b 10000 K k).run P w = .ok () w := by
 unfold Instr.checkKey
 simp only [Sem.run_bind, run_underlying hK, Result.andThen_ok]
 cases kind <;> first | (cases k <;> rfl; done) | (simp [plainKind] at hk; done)
theorem run_findKey_plain (hK : P.underlying K = some kind) {k : Value} {es : List MapEntry} {r : Option (Nat × Value)} (h : Instr.findNow kind k es 0 = some r) (w : World) : (Instr.findKey K k es).run P w = .ok r w := by
 simp [Instr.findKey, run_underlying hK, h]
theorem run_insert_lit (hT : P.underlying T = some (.map K E)) (hK : P.underlying K = some kind) (hk : plainKind kind = true) (l : List (Value × Value)) (n : Nat) (k v : Value) (hn : n = l.length) (h : noKey kind k l = true) (w : World) :
  (Instr.mapUpdate T (.map (some w.heap.size)) k v).run P (w.alloc (.map (ents l 0).toArray n)) = .ok () (w.alloc (.map (ents (l ++ [(k, v)]) 0).toArray (n + 1))) := by
 have hb : (w.alloc (.map (ents l 0).toArray n)).heap[w.heap.size]? = some (.map (ents l 0).toArray n) := heap_alloc_new w _
 subst hn
 simp only [Instr.mapUpdate, Sem.run_bind, run_underlying hT, Result.andThen_ok, MapKept.run_getObj_map hb, run_checkKey_plain hK hk, run_findKey_plain hK (findNow_none h 0 0)]
 simp only [MapKept.run_setObj_map _ hb, List.push_toArray]
 rw [ents_append]
 simp only [Nat.zero_add]
 exact congrArg (Result.ok ()) (alloc_set w _ _)
theorem run_lookup_lit (hT : P.underlying T = some (.map K E)) (hK : P.underlying K = some kind) (hk : plainKind kind = true) (l : List (Value × Value)) (n r : Nat) (k v : Value) {w : World} (hb : w.heap[r]? = some (.map (ents l 0).toArray n)) (h : under kind k l = some v) (ok : Bool) :
  (Instr.lookup T (.map (some r)) k ok).run P w = .ok (if ok then .tuple #[v, .bool true] else v) w := by
 obtain ⟨m, hm⟩ := findNow_some h 0 0
 simp only [Instr.lookup, Sem.run_bind, run_underlying hT, Result.andThen_ok, MapKept.run_getObj_map hb, Sem.run_pure, run_checkKey_plain hK hk, run_findKey_plain hK hm]
theorem run_lookup_none (hT : P.underlying T = some (.map K E)) (hK : P.underlying K = some kind) (hk : plainKind kind = true) (l : List (Value × Value)) (n r : Nat) (k z : Value) {w : World} (hz : (zeroValue E).run P w = .ok z w) (hb : w.heap[r]? = some (.map (ents l 0).toArray n)) (h : noKey kind k l = true) (ok : Bool) :
  (Instr.lookup T (.map (some r)) k ok).run P w = .ok (if ok then .tuple #[z, .bool false] else z) w := by
 simp only [Instr.lookup, Sem.run_bind, run_underlying hT, Result.andThen_ok, MapKept.run_getObj_map hb, Sem.run_pure, run_checkKey_plain hK hk, run_findKey_plain hK (findNow_none h 0 0), hz]
end
end Go.Proofs.YtlfihdcgbhdajaaGreatDoor
namespace Go.Proofs.YtlfihdcgbhdajaaGreatDoor
open Go.RowKit

end Go.Proofs.YtlfihdcgbhdajaaGreatDoor
namespace Go.Proofs.YtlfihdcgbhdajaaGreatDoor
open Go.RowKit
set_option linter.unusedVariables false
set_option linter.unusedSimpArgs false
set_option linter.unusedSectionVars false

section
variable {κ β γ : Type} [DecidableEq κ]
def mget : List (κ × β) → κ → Option β
 | [], _ => none
 | x :: m, k => if x.1 = k then some x.2 else mget m k
def mput : List (κ × β) → κ → β → List (κ × β)
 | [], k, v => [(k, v)]
 | x :: m, k, v => if x.1 = k then (k, v) :: m else x :: mput m k v
def mdel : List (κ × β) → κ → List (κ × β)
 | [], _ => []
 | x :: m, k => if x.1 = k then m else x :: mdel m k
structure Keyed (kind : TypeDesc) (enc : κ → Value) : Prop where
 same : ∀ a b, Instr.sameNow kind (enc a) (enc b) = some (decide (b = a))
 bits : ∀ a, Instr.sameBits 10000 (enc a) (enc a) = true
 plain : plainKind kind = true
def pairs (es : List MapEntry) : List (Value × Value) := es.map fun e => (e.key, e.val)
def encs (enc : κ → Value) (m : List (κ × Value)) : List (Value × Value) := m.map fun x => (enc x.1, x.2)
theorem find_gone {kind : TypeDesc} {enc : κ → Value} (K : Keyed kind enc) (k : κ) : ∀ (es : List MapEntry) (m : List (κ × Value)) (i : Nat), pairs es = encs enc m → mget m k = none → Instr.findNow kind (enc k) es i = some none
 | [], _, _, _, _ => rfl
 | e :: es, [], _, h, _ => by simp [pairs, encs] at h
 | e :: es, x :: m, i, h, hg => by
  simp only [pairs, encs, List.map_cons, List.cons.injEq, Prod.mk.injEq] at h
  unfold mget at hg
  split at hg
  ·cases hg
  ·rename_i hx
   unfold Instr.findNow
   rw [h.1.1, K.same, decide_eq_false hx]
   exact find_gone K k es m (i + 1) h.2 hg
theorem find_there {kind : TypeDesc} {enc : κ → Value} (K : Keyed kind enc) (k : κ) (v : Value) : ∀ (es : List MapEntry) (m : List (κ × Value)) (i : Nat), pairs es = encs enc m → mget m k = some v →
  ∃ j e, Instr.findNow kind (enc k) es i = some (some (i + j, v)) ∧ es[j]? = some e ∧ e.key = enc k ∧ (∀ u, pairs (es.modify j fun e => { e with key := enc k, val := u }) = encs enc (mput m k u)) ∧ pairs (es.eraseIdx j) = encs enc (mdel m k)
 | [], [], _, _, hg => by cases hg
 | [], x :: m, _, h, _ => by simp [pairs, encs] at h
 | e :: es, [], _, h, _ => by simp [pairs, encs] at h
 | e :: es, x :: m, i, h, hg => by
  simp only [pairs, encs, List.map_cons, List.cons.injEq, Prod.mk.injEq] at h
  unfold mget at hg
  split at hg
  ·rename_i hx
   injection hg with hg
   refine ⟨0, e, ?_, rfl, by rw [h.1.1, hx], fun u => ?_, ?_⟩
   ·unfold Instr.findNow
    rw [h.1.1, K.same, decide_eq_true hx]
    simp [h.1.2, hg]
   ·simp only [pairs, encs, mput, if_pos hx, List.modify_zero_cons, List.map_cons, List.cons.injEq, true_and]
    exact h.2
   ·simp only [mdel, if_pos hx, List.eraseIdx_cons_zero]
    exact h.2
  ·rename_i hx
   obtain ⟨j, e', h1, h2, h3, h4, h5⟩ := find_there K k v es m (i + 1) h.2 hg
   refine ⟨j + 1, e', ?_, by simpa using h2, h3, fun u => ?_, ?_⟩
   ·unfold Instr.findNow
    rw [h.1.1, K.same, decide_eq_false hx]
    simp only [h1]
    congr 3
    omega
   ·have := h4 u
    simp only [pairs, encs, mput, if_neg hx, List.modify_succ_cons, List.map_cons, List.cons.injEq, Prod.mk.injEq] at this ⊢
    exact ⟨h.1, this⟩
   ·simp only [pairs, encs, mdel, if_neg hx, List.eraseIdx_cons_succ, List.map_cons, List.cons.injEq, Prod.mk.injEq] at h5 ⊢
    exact ⟨h.1, h5⟩
theorem mput_gone : ∀ (m : List (κ × β)) (k : κ) (v : β), mget m k = none → mput m k v = m ++ [(k, v)]
 | [], _, _, _ => rfl
 | x :: m, k, v, h => by
  unfold mget at h
  split at h
  ·cases h
  ·rename_i hx
   rw [mput, if_neg hx, mput_gone m k v h]
   rfl
theorem mdel_gone : ∀ (m : List (κ × β)) (k : κ), mget m k = none → mdel m k = m
 | [], _, _ => rfl
 | x :: m, k, h => by
  unfold mget at h
  split at h
  ·cases h
  ·rename_i hx
   rw [mdel, if_neg hx, mdel_gone m k h]
def mmap (f : β → γ) (m : List (κ × β)) : List (κ × γ) := m.map fun x => (x.1, f x.2)
theorem mget_map (f : β → γ) : ∀ (m : List (κ × β)) (k : κ), mget (mmap f m) k = (mget m k).map f
 | [], _ => rfl
 | x :: m, k => by
  have ih := mget_map f m k
  simp only [mmap, List.map_cons, mget] at ih ⊢
  split
  ·rfl
  ·exact ih
theorem mput_map (f : β → γ) : ∀ (m : List (κ × β)) (k : κ) (v : β), mput (mmap f m) k (f v) = mmap f (mput m k v)
 | [], _, _ => rfl
 | x :: m, k, v => by
  have ih := mput_map f m k v
  simp only [mmap, List.map_cons, mput] at ih ⊢
  split
  ·rfl
  ·simp only [List.map_cons, ih]
theorem mdel_map (f : β → γ) : ∀ (m : List (κ × β)) (k : κ), mdel (mmap f m) k = mmap f (mdel m k)
 | [], _ => rfl
 | x :: m, k => by
  have ih := mdel_map f m k
  simp only [mmap, List.map_cons, mdel] at ih ⊢
  split
  ·rfl
  ·simp only [List.map_cons, ih]
theorem mget_put : ∀ (m : List (κ × β)) (k j : κ) (v : β), mget (mput m k v) j = if k = j then some v else mget m j
 | [], k, j, v => by simp [mput, mget]
 | x :: m, k, j, v => by
  have ih := mget_put m k j v
  unfold mput
  split
  ·rename_i hx
   simp only [mget]
   split
   ·rfl
   ·rename_i hk
    rw [if_neg (by rw [hx]; exact hk)]
  ·rename_i hx
   simp only [mget]
   split
   ·rename_i hj
    rw [if_neg (by rintro rfl; exact hx hj)]
   ·exact ih
def Once (m : List (κ × β)) : Prop := (m.map (·.1)).Nodup
theorem mget_mem : ∀ (m : List (κ × β)) (k : κ), mget m k = none ↔ k ∉ m.map (·.1)
 | [], _ => by simp [mget]
 | x :: m, k => by
  have ih := mget_mem m k
  simp only [mget, List.map_cons, List.mem_cons, not_or]
  split
  ·rename_i hx
   simp [hx]
  ·rename_i hx
   rw [ih]
   exact ⟨fun h => ⟨fun e => hx e.symm, h⟩, fun h => h.2⟩
theorem mget_del : ∀ (m : List (κ × β)) (k j : κ), Once m → mget (mdel m k) j = if k = j then none else mget m j
 | [], k, j, _ => by simp [mdel, mget]
 | x :: m, k, j, h => by
  unfold Once at h
  rw [List.map_cons, List.nodup_cons] at h
  have ih := mget_del m k j h.2
  unfold mdel
  split
  ·rename_i hx
   split
   ·rename_i hk
    rw [mget_mem, ← hk, ← hx]
    exact h.1
   ·rename_i hk
    simp only [mget]
    rw [if_neg (by rw [hx]; exact hk)]
  ·rename_i hx
   simp only [mget]
   split
   ·rename_i hj
    rw [if_neg (by rintro rfl; exact hx hj)]
   ·exact ih
theorem keys_put : ∀ (m : List (κ × β)) (k : κ) (v : β), (mput m k v).map (·.1) = if mget m k = none then m.map (·.1) ++ [k] else m.map (·.1)
 | [], k, v => by simp [mput, mget]
 | x :: m, k, v => by
  have ih := keys_put m k v
  unfold mput mget
  split
  ·rename_i hx
   simp [hx]
  ·rename_i hx
   simp only [List.map_cons, ih]
   split <;> simp
theorem Once.put {m : List (κ × β)} (h : Once m) (k : κ) (v : β) : Once (mput m k v) := by
 unfold Once at h ⊢
 rw [keys_put]
 split
 ·rename_i hg
  rw [mget_mem] at hg
  rw [List.nodup_append]
  exact ⟨h, by simp, fun a ha b hb e => hg (by rw [List.mem_singleton] at hb; subst hb; subst e; exact ha)⟩
 ·exact h
theorem keys_del : ∀ (m : List (κ × β)) (k : κ), (mdel m k).map (·.1) = (m.map (·.1)).erase k
 | [], _ => rfl
 | x :: m, k => by
  have ih := keys_del m k
  unfold mdel
  split
  ·rename_i hx
   simp [hx]
  ·rename_i hx
   simp only [List.map_cons, ih]
   rw [List.erase_cons_tail (by simpa using hx)]
theorem Once.del {m : List (κ × β)} (h : Once m) (k : κ) : Once (mdel m k) := by
 unfold Once at h ⊢
 rw [keys_del]
 exact h.erase k
theorem len_put (m : List (κ × β)) (k : κ) (v : β) : (mput m k v).length = if mget m k = none then m.length + 1 else m.length := by
 have := congrArg List.length (keys_put m k v)
 rw [List.length_map] at this
 rw [this]
 split <;> simp
theorem enc_inj {kind : TypeDesc} {enc : κ → Value} (K : Keyed kind enc) {a b : κ} (h : enc a = enc b) : a = b := by
 have h1 := K.same a b
 rw [← h, K.same a a] at h1
 have h2 := Option.some.inj h1
 simp only [decide_true] at h2
 exact (of_decide_eq_true h2.symm).symm
theorem far_keys {kind : TypeDesc} {enc : κ → Value} (K : Keyed kind enc) {k : κ} {es : List MapEntry} {m : List (κ × Value)} (h : pairs es = encs enc m) (hg : mget m k = none) : ∀ x ∈ es, x.key ≠ enc k := by
 intro x hx e
 have h1 : (x.key, x.val) ∈ encs enc m := by rw [← h]; exact List.mem_map_of_mem (f := fun e : MapEntry => (e.key, e.val)) hx
 obtain ⟨y, hy, h2⟩ := List.mem_map.1 h1
 have h3 := (Prod.mk.inj h2).1
 exact (mget_mem m k).1 hg (by rw [← enc_inj K (h3.trans e)]; exact List.mem_map_of_mem (f := (·.1)) hy)
def IsMap (enc : κ → Value) (w : World) (r : Nat) (m : List (κ × Value)) : Prop := ∃ es c, w.heap[r]? = some (.map es c) ∧ pairs es.toList = encs enc m ∧ MapKept.Stamped es c
theorem IsMap.new (enc : κ → Value) (w : World) : IsMap enc (w.alloc (.map #[] 0)) w.heap.size [] := ⟨#[], 0, heap_alloc_new w _, rfl, MapKept.stamped_empty 0⟩
theorem IsMap.lt {enc : κ → Value} {w : World} {r : Nat} {m : List (κ × Value)} (h : IsMap enc w r m) : r < w.heap.size := by
 obtain ⟨es, c, hb, _, _⟩ := h
 rcases Nat.lt_or_ge r w.heap.size with hlt | hge
 ·exact hlt
 ·rw [Array.getElem?_eq_none hge] at hb; cases hb
theorem IsMap.of {enc : κ → Value} {w w' : World} {r : Nat} {m : List (κ × Value)} (h : IsMap enc w r m) (e : w'.heap[r]? = w.heap[r]?) : IsMap enc w' r m := by
 obtain ⟨es, c, hb, h2, h3⟩ := h
 exact ⟨es, c, e.trans hb, h2, h3⟩
variable {P : Program} {T K E : TypeId} {kind : TypeDesc} {enc : κ → Value}
theorem run_mget (Kd : Keyed kind enc) (hT : P.underlying T = some (.map K E)) (hK : P.underlying K = some kind) {w : World} {r : Nat} {m : List (κ × Value)} (h : IsMap enc w r m) (k : κ) (v : Value) (hg : mget m k = some v) (ok : Bool) :
  (Instr.lookup T (.map (some r)) (enc k) ok).run P w = .ok (if ok then .tuple #[v, .bool true] else v) w := by
 obtain ⟨es, c, hb, h2, hst⟩ := h
 obtain ⟨j, e, h1, _⟩ := find_there Kd k v es.toList m 0 h2 hg
 simp only [Instr.lookup, Sem.run_bind, run_underlying hT, Result.andThen_ok, MapKept.run_getObj_map hb, Sem.run_pure, run_checkKey_plain hK Kd.plain, run_findKey_plain hK h1]
theorem run_mget_none (Kd : Keyed kind enc) (hT : P.underlying T = some (.map K E)) (hK : P.underlying K = some kind) {w : World} {r : Nat} {m : List (κ × Value)} (h : IsMap enc w r m) (k : κ) (z : Value) (hz : (zeroValue E).run P w = .ok z w) (hg : mget m k = none) (ok : Bool) :
  (Instr.lookup T (.map (some r)) (enc k) ok).run P w = .ok (if ok then .tuple #[z, .bool false] else z) w := by
 obtain ⟨es, c, hb, h2, hst⟩ := h
 have h1 := find_gone Kd k es.toList m 0 h2 hg
 simp only [Instr.lookup, Sem.run_bind, run_underlying hT, Result.andThen_ok, MapKept.run_getObj_map hb, Sem.run_pure, run_checkKey_plain hK Kd.plain, run_findKey_plain hK h1, hz]
structure Mapped (w w' : World) (r : Nat) : Prop where
 other : ∀ i, i ≠ r → w'.heap[i]? = w.heap[i]?
 size : w'.heap.size = w.heap.size
 os : w'.os = w.os
 tape : w'.tape = w.tape
 output : w'.output = w.output
theorem mapped_set {w : World} {r : Nat} (o : Obj) : Mapped w { w with heap := w.heap.setIfInBounds r o } r :=
 ⟨fun i hi => by simp [Array.getElem?_setIfInBounds, Ne.symm hi], by simp, rfl, rfl, rfl⟩
theorem run_mput (Kd : Keyed kind enc) (hT : P.underlying T = some (.map K E)) (hK : P.underlying K = some kind) {w : World} {r : Nat} {m : List (κ × Value)} (h : IsMap enc w r m) (k : κ) (v : Value) :
  ∃ w', (Instr.mapUpdate T (.map (some r)) (enc k) v).run P w = .ok () w' ∧ IsMap enc w' r (mput m k v) ∧ Mapped w w' r := by
 have hr := h.lt
 obtain ⟨es, c, hb, h2, hst⟩ := h
 cases hg : mget m k with
 | none =>
  have h1 := find_gone Kd k es.toList m 0 h2 hg
  refine ⟨_, ?_, ?_, mapped_set (r := r) (.map (es.push { key := enc k, val := v, born := c }) (c + 1))⟩
  ·simp only [Instr.mapUpdate, Sem.run_bind, run_underlying hT, Result.andThen_ok, MapKept.run_getObj_map hb, run_checkKey_plain hK Kd.plain, run_findKey_plain hK h1]
   simp only [MapKept.run_setObj_map _ hb]
  ·refine ⟨es.push { key := enc k, val := v, born := c }, c + 1, by simp [hr], ?_, MapKept.stamped_push hst (fun x hx => far_keys Kd h2 hg x hx)⟩
   rw [mput_gone m k v hg]
   simp only [pairs, encs, Array.toList_push, List.map_append, List.map_cons, List.map_nil]
   congr 1
 | some u =>
  obtain ⟨j, e, h1, h3, h4, h5, _⟩ := find_there Kd k u es.toList m 0 h2 hg
  rw [Nat.zero_add] at h1
  have h3' : es[j]? = some e := by rw [← Array.getElem?_toList]; exact h3
  refine ⟨_, ?_, ?_, mapped_set (r := r) (.map (es.modify j fun e => { e with key := enc k, val := v }) c)⟩
  ·simp only [Instr.mapUpdate, Sem.run_bind, run_underlying hT, Result.andThen_ok, MapKept.run_getObj_map hb, run_checkKey_plain hK Kd.plain, run_findKey_plain hK h1, h3', Option.map_some, Option.getD_some, h4, Instr.keyThatStays, Kd.bits, if_true, Sem.run_pure]
   simp only [MapKept.run_setObj_map _ hb]
  ·refine ⟨es.modify j fun e => { e with key := enc k, val := v }, c, by simp [hr], ?_, MapKept.stamped_modify hst j _ (fun _ _ => rfl) (fun e' _ he' => by
    rw [h3'] at he'
    obtain rfl := Option.some.inj he'
    exact h4.symm)⟩
   rw [Array.toList_modify]
   exact h5 v
theorem run_mdel (Kd : Keyed kind enc) (hT : P.underlying T = some (.map K E)) (hK : P.underlying K = some kind) {w : World} {r : Nat} {m : List (κ × Value)} (h : IsMap enc w r m) (ty : TypeId) (k : κ) :
  ∃ w', (Builtin.delete_ #[T, K] ty #[.map (some r), enc k]).run P w = .ok (.tuple #[]) w' ∧ IsMap enc w' r (mdel m k) ∧ Mapped w w' r := by
 have hr := h.lt
 obtain ⟨es, c, hb, h2, hst⟩ := h
 cases hg : mget m k with
 | none =>
  have h1 := find_gone Kd k es.toList m 0 h2 hg
  refine ⟨_, ?_, ?_, mapped_set (r := r) (.map es c)⟩
  ·simp only [Builtin.delete_, List.getElem?_toArray, List.getElem?_cons_zero, List.getElem?_cons_succ, Sem.run_bind, run_underlying hT, Result.andThen_ok, MapKept.run_getObj_map hb, run_checkKey_plain hK Kd.plain, run_findKey_plain hK h1]
   simp only [MapKept.run_setObj_map _ hb, Sem.run_pure, Result.andThen_ok]
  ·exact ⟨es, c, by simp [hr], by rw [mdel_gone m k hg]; exact h2, hst⟩
 | some u =>
  obtain ⟨j, e, h1, h3, h4, _, h5⟩ := find_there Kd k u es.toList m 0 h2 hg
  rw [Nat.zero_add] at h1
  have hj : j < es.size := by
   have := (List.getElem?_eq_some_iff.1 h3).1
   simpa using this
  refine ⟨_, ?_, ?_, mapped_set (r := r) (.map (es.eraseIdxIfInBounds j) c)⟩
  ·simp only [Builtin.delete_, List.getElem?_toArray, List.getElem?_cons_zero, List.getElem?_cons_succ, Sem.run_bind, run_underlying hT, Result.andThen_ok, MapKept.run_getObj_map hb, run_checkKey_plain hK Kd.plain, run_findKey_plain hK h1]
   simp only [MapKept.run_setObj_map _ hb, Sem.run_pure, Result.andThen_ok]
  ·refine ⟨es.eraseIdxIfInBounds j, c, by simp [hr], ?_, MapKept.stamped_erase hst j⟩
   have e1 : (es.eraseIdxIfInBounds j).toList = es.toList.eraseIdx j := by
    unfold Array.eraseIdxIfInBounds
    rw [dif_pos hj]
    simp
   rw [e1]
   exact h5
theorem run_mlen (hT : P.underlying T = some (.map K E)) {w : World} {r : Nat} {m : List (κ × Value)} (h : IsMap enc w r m) (ty : TypeId) : (Builtin.len_ #[T] ty #[.map (some r)]).run P w = .ok (.int .i64 m.length) w := by
 obtain ⟨es, c, hb, h2, _⟩ := h
 have e1 : es.size = m.length := by
  have := congrArg List.length h2
  simpa [pairs, encs] using this
 rw [← e1]
 simp [Builtin.len_, run_underlying hT, MapKept.run_getObj_map hb, goInt, Result.andThen]
section
variable {ops : Array Oper} {rest : List Oper} {o : Oper} {a : Act} {w : World} {Q : Exit → Act → World → Prop}
theorem wpList_mput (hgd : o.guard = none) (m x y : Operand) (t : TypeId) (ho : o.op = .mapUpdate t m x y) (Kd : Keyed kind enc) (hT : P.underlying t = some (.map K E)) (hK : P.underlying K = some kind) (r : Nat) (k : κ) (v : Value)
  (hm : a.eval m = .map (some r)) (hx : a.eval x = enc k) (hy : a.eval y = v) {mm : List (κ × Value)} (h : IsMap enc w r mm) (hk : ∀ w', IsMap enc w' r (mput mm k v) → Mapped w w' r → wpList P ops Q rest (a.put o.dst undef) w') : wpList P ops Q (o :: rest) a w := by
 refine wpList_plain hgd fun K' hK' => ?_
 obtain ⟨w', hrun, r1, r2⟩ := run_mput Kd hT hK h k v
 unfold Oper.wp
 simp [execOp, ho, hm, hx, hy, hrun, Result.andThen]
 exact hK' _ _ (hk w' r1 r2)
theorem wpList_mdel (hgd : o.guard = none) (m x : Operand) (t : TypeId) (ho : o.op = .call { callee := .builtin .delete, args := #[m, x], argTypes := #[t, K] }) (Kd : Keyed kind enc) (hT : P.underlying t = some (.map K E)) (hK : P.underlying K = some kind) (r : Nat) (k : κ)
  (hm : a.eval m = .map (some r)) (hx : a.eval x = enc k) {mm : List (κ × Value)} (h : IsMap enc w r mm) (hk : ∀ w', IsMap enc w' r (mdel mm k) → Mapped w w' r → wpList P ops Q rest (a.put o.dst (.tuple #[])) w') : wpList P ops Q (o :: rest) a w := by
 refine wpList_plain hgd fun K' hK' => ?_
 obtain ⟨w', hrun, r1, r2⟩ := run_mdel Kd hT hK h o.type k
 unfold Oper.wp
 simp [execOp, ho, resolve, invoke, builtin, hm, hx, hrun, Result.andThen]
 exact hK' _ _ (hk w' r1 r2)
theorem wpList_mlen (hgd : o.guard = none) (m : Operand) (t : TypeId) (ho : o.op = .call { callee := .builtin .len, args := #[m], argTypes := #[t] }) (hT : P.underlying t = some (.map K E)) (r : Nat) (hm : a.eval m = .map (some r)) {mm : List (κ × Value)} (h : IsMap enc w r mm)
  (hk : wpList P ops Q rest (a.put o.dst (.int .i64 mm.length)) w) : wpList P ops Q (o :: rest) a w := by
 refine wpList_plain hgd fun K' hK' => ?_
 unfold Oper.wp
 simp [execOp, ho, resolve, invoke, builtin, hm, run_mlen hT h o.type, Result.andThen]
 exact hK' _ _ hk
end
end
theorem bits_int (n : Nat) (kd : IntKind) (a : Int) : Instr.sameBits n (.int kd a) (.int kd a) = true := by
 cases n <;> (unfold Instr.sameBits; simp)
theorem bits_str (n : Nat) (a : ByteArray) : Instr.sameBits n (.string a) (.string a) = true := by
 cases n <;> (unfold Instr.sameBits; exact beq_self_eq_true a.data)
theorem keyed_int (kd : IntKind) : Keyed (κ := Int) (.int kd) (fun n => .int kd n) :=
 ⟨fun a b => by
  simp only [Instr.sameNow, if_true]
  congr 1
  rw [Bool.eq_iff_iff, beq_iff_eq, decide_eq_true_eq]
  exact ⟨Eq.symm, Eq.symm⟩, fun a => bits_int 10000 kd a, rfl⟩
theorem keyed_str : Keyed (κ := ByteArray) .string Value.string :=
 ⟨fun a b => by
  show some (a.data == b.data) = _
  congr 1
  rw [Bool.eq_iff_iff, beq_iff_eq, decide_eq_true_eq]
  exact ⟨fun h => (ByteArray.ext h).symm, fun h => by rw [h]⟩, fun a => bits_str 10000 a, rfl⟩
end Go.Proofs.YtlfihdcgbhdajaaGreatDoor
namespace Go.Proofs.YtlfihdcgbhdajaaGreatDoor
open Go.RowKit
set_option linter.unusedVariables false
set_option linter.unusedSimpArgs false

section
variable {P : Program} {ops : Array Oper} {rest : List Oper} {o : Oper} {a : Act} {w : World} {Q : Exit → Act → World → Prop}
end
theorem wp_scope_fwd {P : Program} {a : Act} {w : World} {Q : Exit → Act → World → Prop} {c rest : Code} (l : Nat) (hf : findLabel c l = some rest)
  (first : c.wp P (Exit.jump l (fun a' w' => rest.wp P (Exit.noGoto Q) a' w') Q) a w) : (Code.scope c).wp P Q a w :=
 wp_scope_jumps l _ (fun _ _ => 0) hf first fun a' w' h => wp_mono h fun e a2 w2 hq => by
  cases e <;> first | exact hq | exact hq.elim
end Go.Proofs.YtlfihdcgbhdajaaGreatDoor
