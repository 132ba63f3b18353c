/- Small lemmas that all texts of this seat share: equations between endings, the frame of calls that only make new blocks, draws. Contracts of the leaf functions of package values (layer 14) and of its reference: sums, differences, quotients, values, checks. Contracts of values' makers, of what may be a value, of a heap's maker; and of their twins in the reference of layer 14. What may be a value, by the reference; heaps are made; cells are taken. Cells are taken from a heap, and told. Values in three fields; two are the same; texts are made. Map literals whose keys are known, as they are made, entry by entry; what is looked up in them. Maps that are written and looked up in whatever order: what is under a key; what stands in it. Heaps of tables in plain words: what is under a key, what is put, how long a table is, its keys; how two maps, or two rows, stand for a table. What is told by a heap, and how it is behind each of its deeds. Rows of cells that are built, stored, loaded whole. -/
import Derived.WalkKit
import Derived.BigQuiet
import Derived.WalkSpells
import Derived.WalkLawsBesides
import Derived.Lib.Hide
import Derived.Deep.QuietTactic
import Derived.Sort.Grow
import Derived.Deep.RegionWith
import Derived.Test.YtfagldjhibdfhaaGreatDoorProg
import Derived.ChangeMaps4
import Derived.MapKept
import Derived.Lib.Strings
import Derived.Deep.WholeRow
import Derived.Laws.CopyOwn
import Derived.Laws.Rows
import Derived.ScopeJumps
import Derived.WalkMore
namespace Go.Proofs.YtfagldjhibdfhaaGreatDoor
open Go.RowKit
set_option linter.unusedVariables false

theorem int_eq {k : IntKind} {a b : Int} (h : a = b) : Value.int k a = Value.int k b := by rw [h]
theorem bool_eq {a b : Bool} (h : a = b) : Value.bool a = Value.bool b := by rw [h]
theorem ret_of {x x' : Value} (h : x = x') : Ending.returned x = Ending.returned x' := by rw [h]
theorem ret2_of {x y x' y' : Value} (h : x = x' ∧ y = y') : Ending.returned (.tuple #[x, y]) = Ending.returned (.tuple #[x', y']) := by rw [h.1, h.2]
def Ext (w w' : World) : Prop := Below w.heap.size w w'
theorem Ext.refl (w : World) : Ext w w := Below.refl _ _
theorem Ext.trans {a b c : World} (h : Ext a b) (k : Ext b c) : Ext a c :=
 Below.trans h (Below.mono k h.size)
theorem Ext.drew {a w : World} (h : Ext a w) : Ext a w.drew := Below.drew h
theorem Ext.drewN {a w : World} (h : Ext a w) (n : Nat) : Ext a (w.drewN n) := ⟨h.os, h.tape, h.output, h.size, h.block⟩
theorem Ext.alloc {a w : World} (h : Ext a w) (o : Obj) : Ext a (w.alloc o) := Below.alloc h h.size o
theorem Ext.setCell {a w : World} (h : Ext a w) {p : Addr} (hp : a.heap.size ≤ p.block) (u : Value) : Ext a (w.setCell p u) := Below.setCell h hp u
theorem Ext.grow {a w : World} (h : Ext a w) (k : Nat) (os : Array Obj) : Ext a (Go.Sort.grow (w.drewN k) os) :=
 Ext.trans h ⟨rfl, rfl, rfl, by simp [Go.Sort.grow, World.drewN], fun k hk => by simp [Go.Sort.grow, World.drewN, Array.getElem?_append, hk]⟩
theorem Ext.cells {w w' : World} (h : Ext w w') : (∀ b o, b < w.heap.size → w'.cell? ⟨b, o, none⟩ = w.cell? ⟨b, o, none⟩) ∧ (∀ b o, b < w.heap.size → w'.frozen? ⟨b, o, none⟩ = w.frozen? ⟨b, o, none⟩) :=
 ⟨fun b o hb => Below.cell h (p := ⟨b, o, none⟩) hb, fun b o hb => Below.frozen h (p := ⟨b, o, none⟩) hb⟩
theorem Ext.le {w w' : World} (h : Ext w w') : w.heap.size ≤ w'.heap.size := h.size
def Only (g : Nat) (w w' : World) : Prop := w.grownBy w' (some g)
theorem Only.refl (g : Nat) (w : World) : Only g w w := World.grownBy.refl w _
theorem Only.of_ext {g : Nat} {w w' : World} (h : Ext w w') : Only g w w' := ⟨h.os, h.tape, h.output, h.size, fun k hk _ => h.block k hk⟩
theorem Only.trans {g : Nat} {a b c : World} (h : Only g a b) (k : Only g b c) : Only g a c :=
 ⟨k.os.trans h.os, k.tape.trans h.tape, k.output.trans h.output, Nat.le_trans h.size k.size, fun i hi hn => (k.block i (Nat.lt_of_lt_of_le hi h.size) hn).trans (h.block i hi hn)⟩
theorem Only.ext {g : Nat} {a b c : World} (h : Only g a b) (k : Ext b c) : Only g a c := h.trans (.of_ext k)
theorem Only.drew {g : Nat} {a w : World} (h : Only g a w) : Only g a w.drew := h.ext (Ext.refl w).drew
theorem Only.alloc {g : Nat} {a w : World} (h : Only g a w) (o : Obj) : Only g a (w.alloc o) := h.ext ((Ext.refl w).alloc o)
theorem Only.setCell {g : Nat} {a w : World} (h : Only g a w) {p : Addr} (hp : p.block = g ∨ a.heap.size ≤ p.block) (u : Value) : Only g a (w.setCell p u) :=
 ⟨h.os, h.tape, h.output, by simpa [World.setCell] using h.size, fun i hi hne => (Below.heap_setCell w p u i (by
  rintro rfl
  rcases hp with hp | hp
  ·exact hne (by rw [hp])
  ·omega)).trans (h.block i hi hne)⟩
theorem Only.cells {g : Nat} {w w' : World} (h : Only g w w') : (∀ b o, b < w.heap.size → ¬ b = g → w'.cell? ⟨b, o, none⟩ = w.cell? ⟨b, o, none⟩) ∧ (∀ b o, b < w.heap.size → ¬ b = g → w'.frozen? ⟨b, o, none⟩ = w.frozen? ⟨b, o, none⟩) :=
 ⟨fun b _ hb hn => World.cell?_of_block (h.block b hb (fun e => hn (Option.some.inj e))), fun b _ hb hn => World.frozen?_of_block (h.block b hb (fun e => hn (Option.some.inj e)))⟩
theorem Only.to_ext {g : Nat} {a w w' : World} (h : Only g w w') (he : Ext a w) (hg : a.heap.size ≤ g) : Ext a w' :=
 ⟨h.os.trans he.os, h.tape.trans he.tape, h.output.trans he.output, Nat.le_trans he.size h.size, fun i hi => (h.block i (Nat.lt_of_lt_of_le hi he.size) (fun e => by have := Option.some.inj e; omega)).trans (he.block i hi)⟩
theorem Only.le {g : Nat} {w w' : World} (h : Only g w w') : w.heap.size ≤ w'.heap.size := h.size
theorem size_alloc (w : World) (o : Obj) : (w.alloc o).heap.size = w.heap.size + 1 := by show (w.heap.push o).size = _; simp
theorem Only.lt1 {g : Nat} {w w' : World} {o : Obj} (h : Only g (w.alloc o) w') : w.heap.size < w'.heap.size := by
 have := h.le; rw [size_alloc] at this; omega
theorem Only.lt2 {g : Nat} {w w' : World} {o p : Obj} (h : Only g ((w.alloc o).alloc p) w') : w.heap.size < w'.heap.size ∧ w.heap.size + 1 < w'.heap.size := by
 have := h.le; rw [size_alloc, size_alloc] at this; omega
theorem Only.lt3 {g : Nat} {w w' : World} {o p q : Obj} (h : Only g (((w.alloc o).alloc p).alloc q) w') : w.heap.size < w'.heap.size ∧ w.heap.size + 1 < w'.heap.size ∧ w.heap.size + 2 < w'.heap.size := by
 have := h.le; rw [size_alloc, size_alloc, size_alloc] at this; omega
theorem Ext.lt1 {w w' : World} {o : Obj} (h : Ext (w.alloc o) w') : w.heap.size < w'.heap.size := by
 have := h.le; rw [size_alloc] at this; omega
theorem Ext.lt2 {w w' : World} {o p : Obj} (h : Ext ((w.alloc o).alloc p) w') : w.heap.size < w'.heap.size ∧ w.heap.size + 1 < w'.heap.size := by
 have := h.le; rw [size_alloc, size_alloc] at this; omega
theorem Ext.lt3 {w w' : World} {o p q : Obj} (h : Ext (((w.alloc o).alloc p).alloc q) w') : w.heap.size < w'.heap.size ∧ w.heap.size + 1 < w'.heap.size ∧ w.heap.size + 2 < w'.heap.size := by
 have := h.le; rw [size_alloc, size_alloc, size_alloc] at this; omega
def Blk (w : World) (g : Nat) (t : TypeId) (cs : Array Value) : Prop := w.heap[g]? = some (.cells cs t (0, 0))
theorem Blk.lt {w : World} {g : Nat} {t : TypeId} {cs : Array Value} (h : Blk w g t cs) : g < w.heap.size := by
 rcases Nat.lt_or_ge g w.heap.size with hlt | hge
 ·exact hlt
 ·unfold Blk at h; rw [Array.getElem?_eq_none hge] at h; cases h
theorem Blk.cell {w : World} {g : Nat} {t : TypeId} {cs : Array Value} (h : Blk w g t cs) (i : Nat) : w.cell? ⟨g, i, none⟩ = cs[i]? := cell_of_row w g i cs t (0, 0) h
theorem Blk.frozen {w : World} {g : Nat} {t : TypeId} {cs : Array Value} (h : Blk w g t cs) (i : Nat) : w.frozen? ⟨g, i, none⟩ = false := by
 unfold Blk at h
 simp [World.frozen?, h]
theorem Blk.new (w : World) (t : TypeId) (cs : Array Value) : Blk (w.alloc (.cells cs t)) w.heap.size t cs := heap_alloc_new w _
theorem Blk.drew {w : World} {g : Nat} {t : TypeId} {cs : Array Value} (h : Blk w g t cs) : Blk w.drew g t cs := h
theorem Blk.drewN {w : World} {g : Nat} {t : TypeId} {cs : Array Value} (h : Blk w g t cs) (n : Nat) : Blk (w.drewN n) g t cs := h
theorem Blk.alloc {w : World} {g : Nat} {t : TypeId} {cs : Array Value} (h : Blk w g t cs) (o : Obj) : Blk (w.alloc o) g t cs := (Below.heap_alloc w o g h.lt).trans h
theorem Blk.set_ {w : World} {g : Nat} {t : TypeId} {cs : Array Value} (h : Blk w g t cs) (i : Nat) (u : Value) : Blk (w.setCell ⟨g, i, none⟩ u) g t (cs.setIfInBounds i u) := by
 unfold Blk at h ⊢
 simp [World.setCell, Array.getElem?_modify, h]
theorem Blk.far {w : World} {g : Nat} {t : TypeId} {cs : Array Value} (h : Blk w g t cs) {p : Addr} (hp : g ≠ p.block) (u : Value) : Blk (w.setCell p u) g t cs := (Below.heap_setCell w p u g hp).trans h
theorem Blk.ext {w w' : World} {g : Nat} {t : TypeId} {cs : Array Value} (h : Blk w g t cs) (hb : Ext w w') : Blk w' g t cs := (hb.block g h.lt).trans h
theorem Blk.only {w w' : World} {g g' : Nat} {t : TypeId} {cs : Array Value} (h : Blk w g t cs) (hb : Only g' w w') (hg : g ≠ g') : Blk w' g t cs := (hb.block g h.lt (fun e => hg (Option.some.inj e))).trans h
theorem wp_region_ext {P : Program} {id : Nat} {Q : Exit → Act → World → Prop} {a : Act} {w : World} {l : List Oper} (hm : P.follows .mixedOrders = true) (hB : Region.lexB .any l.toArray = true)
  (h : wpQuiet P l.toArray (fun w' => Ext w w') (fun a' => ∀ w', Ext w w' → Q .normal a' w') l a) : (Code.region id l.toArray true).wp P Q a w :=
 wp_region_quiet (C := fun w' => Ext w w') hm hB ((Ext.refl w).drew) (by simpa using h)
theorem Calls.ext_of {P : Program} {f : FuncId} {args : Array Value} {w W : World} {v : Value} (hW : Ext w W)
  (h : Calls P f args W fun e w' => e = .returned v ∧ Ext W w') : Calls P f args W fun e w'' => e = .returned v ∧ Ext w w'' :=
 h.mono fun _ _ ⟨he, hb⟩ => ⟨he, hW.trans hb⟩
end Go.Proofs.YtfagldjhibdfhaaGreatDoor
namespace Go.Proofs.YtfagldjhibdfhaaGreatDoor
open Go.RowKit
set_option linter.unusedVariables false

def turns (a b : Int) : Prop := (a.tmod b < 0 ∧ 0 < b) ∨ (0 < a.tmod b ∧ b < 0)
instance (a b : Int) : Decidable (turns a b) := inferInstanceAs (Decidable ((a.tmod b < 0 ∧ 0 < b) ∨ (0 < a.tmod b ∧ b < 0)))
end Go.Proofs.YtfagldjhibdfhaaGreatDoor
namespace Go.Proofs.YtfagldjhibdfhaaGreatDoor
open Go.RowKit
set_option linter.unusedVariables false

abbrev vv (k n : Int) (s : ByteArray) : Value := .agg #[.int .i64 k, .int .i64 n, .string s]
theorem int_any (n : Int) (w : World) : Calls Tryz.prog 17 #[.int .i64 n] w fun e w' => e = .returned (vv 2 n ⟨#[]⟩) ∧ Ext w w' := by
 go_enter Tryz.func17, Tryz.ntmps17
 go_wp2
 exact bodyPost_ret (v := vv 2 n ⟨#[]⟩) (by simp [results, Tryz.results17, go_sem]) rfl ⟨rfl, (Ext.refl w).alloc _⟩
theorem text_any (s : ByteArray) (w : World) : Calls Tryz.prog 16 #[.string s] w fun e w' => e = .returned (vv 3 0 s) ∧ Ext w w' := by
 go_enter Tryz.func16, Tryz.ntmps16
 go_wp2
 exact bodyPost_ret (v := vv 3 0 s) (by simp [results, Tryz.results16, go_sem]) rfl ⟨rfl, (Ext.refl w).alloc _⟩
def checkB (k n : Int) (s : ByteArray) : Bool :=
 if k = 0 then n == 0 && s.toList.isEmpty else if k = 1 then s.toList.isEmpty && (n == 0 || n == 1) else if k = 2 then s.toList.isEmpty
 else if k = 3 then n == 0 && decide (s.size ≤ 1048576) else if k = 4 then s.toList.isEmpty && decide (0 ≤ n) else false
theorem check_any (k n : Int) (s : ByteArray) (w : World) : Calls Tryz.prog 40 #[vv k n s] w fun e w' => e = .returned (.bool (checkB k n s)) ∧ Ext w w' := by
 by_cases h0 : k = 0
 ·subst h0
  go_enter Tryz.func40, Tryz.ntmps40
  go_wp2
  all_goals (go_ret; go_tidy; refine ⟨ret_of (bool_eq ?_), (Ext.refl w).alloc _⟩)
  all_goals (first | (simp_all [checkB]; done) | (simp_all [checkB]; omega))
 by_cases h1 : k = 1
 ·subst h1
  go_enter Tryz.func40, Tryz.ntmps40
  go_wp2
  all_goals (go_ret; go_tidy; refine ⟨ret_of (bool_eq ?_), (Ext.refl w).alloc _⟩)
  all_goals (first | (simp_all [checkB]; done) | (simp_all [checkB]; omega))
 by_cases h2 : k = 2
 ·subst h2
  go_enter Tryz.func40, Tryz.ntmps40
  go_wp2
  all_goals (go_ret; go_tidy; refine ⟨ret_of (bool_eq ?_), (Ext.refl w).alloc _⟩)
  all_goals (first | (simp_all [checkB]; done) | (simp_all [checkB]; omega))
 by_cases h3 : k = 3
 ·subst h3
  go_enter Tryz.func40, Tryz.ntmps40
  go_wp2
  all_goals (go_ret; go_tidy; refine ⟨ret_of (bool_eq ?_), (Ext.refl w).alloc _⟩)
  all_goals (first | (simp_all [checkB]; done) | (simp_all [checkB]; omega))
 by_cases h4 : k = 4
 ·subst h4
  go_enter Tryz.func40, Tryz.ntmps40
  go_wp2
  all_goals (go_ret; go_tidy; refine ⟨ret_of (bool_eq ?_), (Ext.refl w).alloc _⟩)
  all_goals (first | (simp_all [checkB]; done) | (simp_all [checkB]; omega))
 ·go_enter Tryz.func40, Tryz.ntmps40
  go_wp2
  all_goals (go_ret; go_tidy; refine ⟨ret_of (bool_eq ?_), (Ext.refl w).alloc _⟩)
  all_goals (first | (simp_all [checkB]; done) | (simp_all [checkB]; omega))
end Go.Proofs.YtfagldjhibdfhaaGreatDoor
namespace Go.Proofs.YtfagldjhibdfhaaGreatDoor
open Go.RowKit
set_option linter.unusedVariables false

theorem new_any (c : Int) (w : World) (hc : c ≤ 9223372036854775807) (hc' : -9223372036854775808 ≤ c) : Calls Tryz.prog 14 #[.int .i64 c] w fun e w' =>
  e = .returned (.pointer (some ⟨w.heap.size, 0, none⟩)) ∧ w.alloc (.cells #[.slice none 0 0, .int .i64 (max c 0), .int .i64 0] 65) = w' := by
 rcases (by omega : c < 0 ∨ 0 ≤ c) with h0 | h0
 ·have e : max c 0 = 0 := by omega
  rw [e]
  clear e
  go_enter Tryz.func14, Tryz.ntmps14
  go_wp2
  go_ret
  exact ⟨rfl, rfl⟩
 ·have e : max c 0 = c := by omega
  rw [e]
  clear e
  go_enter Tryz.func14, Tryz.ntmps14
  go_wp2
  go_ret
  exact ⟨rfl, rfl⟩
end Go.Proofs.YtfagldjhibdfhaaGreatDoor
namespace Go.Proofs.YtfagldjhibdfhaaGreatDoor
open Go.RowKit
set_option linter.unusedVariables false

def tkB (c s n : Int) : Bool := decide (n ≤ c - s)
def tk (c s n : Int) : Int := if n ≤ c - s then s + n else s
theorem tkB_yes {c s n : Int} (h : n ≤ c - s) : true = tkB c s n := by simp [tkB, h]
theorem tkB_no {c s n : Int} (h : ¬ n ≤ c - s) : false = tkB c s n := by simp [tkB, h]
theorem tk_yes {c s n : Int} (h : n ≤ c - s) : tk c s n = s + n := if_pos h
theorem tk_no {c s n : Int} (h : ¬ n ≤ c - s) : tk c s n = s := if_neg h
theorem take_any (g : Nat) (tv : Value) (c s n : Int) (w : World) (h : Blk w g 65 #[tv, .int .i64 c, .int .i64 s]) (hs : 0 ≤ s) (hc : s ≤ c) (hc' : c ≤ 9223372036854775807) (hn : 0 ≤ n) (hn' : n ≤ 4611686018427387903) :
  Calls Tryz.prog 38 #[.pointer (some ⟨g, 0, none⟩), .int .i64 n] w fun e w' =>
   e = .returned (.bool (tkB c s n)) ∧ Only g w w' ∧ Blk w' g 65 #[tv, .int .i64 c, .int .i64 (tk c s n)] := by
 have c1 : w.cell? ⟨g, 1, none⟩ = some (.int .i64 c) := h.cell 1
 have c2 : w.cell? ⟨g, 2, none⟩ = some (.int .i64 s) := h.cell 2
 have f2 : w.frozen? ⟨g, 2, none⟩ = false := h.frozen 2
 have e1 : IntKind.i64.wrap (c - s) = c - s := IntWalk.i64_in _ (by omega)
 by_cases hq : n ≤ c - s
 ·have hd : decide (c - s < n) = false := by simp; omega
  go_enter Tryz.func38, Tryz.ntmps38
  go_wp2
  go_quiet (fail)
  clear hd e1
  go_wp2
  go_ret
  refine ⟨ret_of (bool_eq (tkB_yes hq)), ((Only.refl g w).ext ((Ext.refl w).drewN _)).setCell (.inl rfl) _, ?_⟩
  rw [tk_yes hq]
  exact (h.drewN _).set_ 2 _
 ·have hd : decide (c - s < n) = true := by simp; omega
  go_enter Tryz.func38, Tryz.ntmps38
  go_wp2
  go_quiet (fail)
  clear hd e1
  go_wp2
  go_ret
  refine ⟨ret_of (bool_eq (tkB_no (by omega))), (Only.refl g w).ext ((Ext.refl w).drewN _), ?_⟩
  rw [tk_no (by omega)]
  exact h.drewN _
end Go.Proofs.YtfagldjhibdfhaaGreatDoor
namespace Go.Proofs.YtfagldjhibdfhaaGreatDoor
open Go.RowKit
set_option linter.unusedVariables false

structure Vl where
 k : Int
 n : Int
 s : ByteArray
abbrev Vl.v (x : Vl) : Value := .agg #[.int .i64 x.k, .int .i64 x.n, .string x.s]
def Vl.zero : Vl := ⟨0, 0, ⟨#[]⟩⟩
def Vl.ck (x : Vl) : Bool := checkB x.k x.n x.s
def sNone : ByteArray := ⟨#[]⟩
def sMemory : ByteArray := ⟨#[109, 101, 109, 111, 114, 121]⟩
def sLong : ByteArray := ⟨#[108, 111, 110, 103]⟩
def sType : ByteArray := ⟨#[116, 121, 112, 101]⟩
def mkN (s : ByteArray) : Int := (s.size : Int) / 16 + 1
def mkV (c sp : Int) (s : ByteArray) : Vl := if 1048576 < (s.size : Int) then .zero else if mkN s ≤ c - sp then ⟨3, 0, s⟩ else .zero
def mkW (c sp : Int) (s : ByteArray) : ByteArray := if 1048576 < (s.size : Int) then sLong else if mkN s ≤ c - sp then sNone else sMemory
def mkC (c sp : Int) (s : ByteArray) : Int := if 1048576 < (s.size : Int) then sp else tk c sp (mkN s)
abbrev HB (w : World) (g : Nat) (tv : Value) (c s : Int) : Prop := Blk w g 65 #[tv, .int .i64 c, .int .i64 s]
abbrev RB (w : World) (g : Nat) (tv : Value) (c s : Int) : Prop := Blk w g 123 #[tv, .int .i64 c, .int .i64 s]
theorem make_any (g : Nat) (tv : Value) (c sp : Int) (s : ByteArray) (w : World) (h : HB w g tv c sp) (hs : 0 ≤ sp) (hc : sp ≤ c) (hc' : c ≤ 9223372036854775807) (hz : s.size ≤ 9223372036854775807) :
  Calls Tryz.prog 54 #[.pointer (some ⟨g, 0, none⟩), .string s] w fun e w' =>
   e = .returned (.tuple #[(mkV c sp s).v, .string (mkW c sp s)]) ∧ Only g w w' ∧ HB w' g tv c (mkC c sp s) := by
 have hg := h.lt
 by_cases hl : 1048576 < (s.size : Int)
 ·go_enter Tryz.func54, Tryz.ntmps54
  go_wp2
  refine bodyPost_ret (v := .tuple #[Vl.zero.v, .string sLong]) (by simp [results, Tryz.results54, go_sem, Vl.zero, sLong]) rfl ⟨ret2_of ⟨?_, ?_⟩, ?_, ?_⟩
  ·rw [mkV, if_pos hl]
  ·rw [mkW, if_pos hl]
  ·exact (Only.refl g w).alloc _
  ·rw [mkC, if_pos hl]; exact h.alloc _
 ·have hn : 0 ≤ (s.size : Int) / 16 := by omega
  have hn' : (s.size : Int) / 16 ≤ 65536 := by omega
  have hk : ¬ w.heap.size = g := by omega
  have hl' : ¬ 1048576 < (s.size : Int) := hl
  by_cases hq : (s.size : Int) / 16 + 1 ≤ c - sp
  ·have hb : tkB c sp ((s.size : Int) / 16 + 1) = true := (tkB_yes hq).symm
   go_enter Tryz.func54, Tryz.ntmps54
   go_wp2_with (first
    | (go_at_call 38; refine (take_any g tv c sp _ _ (h.alloc _) hs hc hc' (by omega) (by omega)).mono ?_; rintro e w' ⟨rfl, ho, hb'⟩; obtain ⟨q1, q2⟩ := ho.cells)
    | (go_at_call 16; refine (text_any _ _).mono ?_; rintro e w'' ⟨rfl, he⟩; have hz' := ho.lt1; obtain ⟨p1, p2⟩ := he.cells))
   refine bodyPost_ret (v := .tuple #[vv 3 0 s, .string sNone]) (by simp [results, Tryz.results54, go_sem, sNone, *]) rfl ⟨ret2_of ⟨?_, ?_⟩, ?_, ?_⟩
   ·rw [mkV, if_neg (by omega), if_pos (by unfold mkN; omega)]
   ·rw [mkW, if_neg (by omega), if_pos (by unfold mkN; omega)]
   ·exact ((((((Only.refl g w).alloc _).trans ho).ext he).setCell (.inr (Nat.le_refl _)) _).setCell (.inr (Nat.le_refl _)) _).setCell (.inr (Nat.le_refl _)) _
   ·rw [mkC, if_neg (by omega)]
    exact (((hb'.ext he).far (by simp; omega) _).far (by simp; omega) _).far (by simp; omega) _
  ·have hb : tkB c sp ((s.size : Int) / 16 + 1) = false := (tkB_no hq).symm
   go_enter Tryz.func54, Tryz.ntmps54
   go_wp2_with (first
    | (go_at_call 38; refine (take_any g tv c sp _ _ (h.alloc _) hs hc hc' (by omega) (by omega)).mono ?_; rintro e w' ⟨rfl, ho, hb'⟩; obtain ⟨q1, q2⟩ := ho.cells))
   refine bodyPost_ret (v := .tuple #[Vl.zero.v, .string sMemory]) (by simp [results, Tryz.results54, go_sem, sMemory, Vl.zero, *]) rfl ⟨ret2_of ⟨?_, ?_⟩, ?_, ?_⟩
   ·rw [mkV, if_neg (by omega), if_neg (by unfold mkN; omega)]
   ·rw [mkW, if_neg (by omega), if_neg (by unfold mkN; omega)]
   ·exact (((((Only.refl g w).alloc _).trans ho).setCell (.inr (Nat.le_refl _)) _).setCell (.inr (Nat.le_refl _)) _).setCell (.inr (Nat.le_refl _)) _
   ·rw [mkC, if_neg (by omega)]
    exact ((hb'.far (by simp; omega) _).far (by simp; omega) _).far (by simp; omega) _
end Go.Proofs.YtfagldjhibdfhaaGreatDoor
namespace Go.Proofs.YtfagldjhibdfhaaGreatDoor
open Go.RowKit
set_option linter.unusedVariables false

def under (kind : TypeDesc) (k : Value) : List (Value × Value) → Option Value
 | [] => none
 | x :: l => if Instr.sameNow kind k x.1 = some true then some x.2 else if Instr.sameNow kind k x.1 = some false then under kind k l else none
section
variable {P : Program} {T K E : TypeId} {kind : TypeDesc}
def plainKind : TypeDesc → Bool
 | .int _ | .string => true
 | _ => false
theorem run_checkKey_plain (hK : P.underlying K = some kind) (hk : plainKind kind = true) (b : Bool) (k : Value) (w : World) : (Instr.checkKey b 10000 K k).run P w = .ok () w := by
 unfold Instr.checkKey
 simp only [Sem.run_bind, run_underlying hK, Result.andThen_ok]
 cases kind <;> first | (cases k <;> rfl; done) | (simp [plainKind] at hk; done)
theorem run_findKey_plain (hK : P.underlying K = some kind) {k : Value} {es : List MapEntry} {r : Option (Nat × Value)} (h : Instr.findNow kind k es 0 = some r) (w : World) : (Instr.findKey K k es).run P w = .ok r w := by
 simp [Instr.findKey, run_underlying hK, h]
end
end Go.Proofs.YtfagldjhibdfhaaGreatDoor
namespace Go.Proofs.YtfagldjhibdfhaaGreatDoor
open Go.RowKit
set_option linter.unusedVariables false
set_option linter.unusedSimpArgs false
set_option linter.unusedSectionVars false

section
variable {κ β γ : Type} [DecidableEq κ]
def mget : List (κ × β) → κ → Option β
 | [], _ => none
 | x :: m, k => if x.1 = k then some x.2 else mget m k
def mput : List (κ × β) → κ → β → List (κ × β)
 | [], k, v => [(k, v)]
 | x :: m, k, v => if x.1 = k then (k, v) :: m else x :: mput m k v
def mdel : List (κ × β) → κ → List (κ × β)
 | [], _ => []
 | x :: m, k => if x.1 = k then m else x :: mdel m k
structure Keyed (kind : TypeDesc) (enc : κ → Value) : Prop where
 same : ∀ a b, Instr.sameNow kind (enc a) (enc b) = some (decide (b = a))
 bits : ∀ a, Instr.sameBits 10000 (enc a) (enc a) = true
 plain : plainKind kind = true
def pairs (es : List MapEntry) : List (Value × Value) := es.map fun e => (e.key, e.val)
def encs (enc : κ → Value) (m : List (κ × Value)) : List (Value × Value) := m.map fun x => (enc x.1, x.2)
theorem find_gone {kind : TypeDesc} {enc : κ → Value} (K : Keyed kind enc) (k : κ) : ∀ (es : List MapEntry) (m : List (κ × Value)) (i : Nat), pairs es = encs enc m → mget m k = none → Instr.findNow kind (enc k) es i = some none
 | [], _, _, _, _ => rfl
 | e :: es, [], _, h, _ => by simp [pairs, encs] at h
 | e :: es, x :: m, i, h, hg => by
  simp only [pairs, encs, List.map_cons, List.cons.injEq, Prod.mk.injEq] at h
  unfold mget at hg
  split at hg
  ·cases hg
  ·rename_i hx
   unfold Instr.findNow
   rw [h.1.1, K.same, decide_eq_false hx]
   exact find_gone K k es m (i + 1) h.2 hg
theorem find_there {kind : TypeDesc} {enc : κ → Value} (K : Keyed kind enc) (k : κ) (v : Value) : ∀ (es : List MapEntry) (m : List (κ × Value)) (i : Nat), pairs es = encs enc m → mget m k = some v →
  ∃ j e, Instr.findNow kind (enc k) es i = some (some (i + j, v)) ∧ es[j]? = some e ∧ e.key = enc k ∧ (∀ u, pairs (es.modify j fun e => { e with key := enc k, val := u }) = encs enc (mput m k u)) ∧ pairs (es.eraseIdx j) = encs enc (mdel m k)
 | [], [], _, _, hg => by cases hg
 | [], x :: m, _, h, _ => by simp [pairs, encs] at h
 | e :: es, [], _, h, _ => by simp [pairs, encs] at h
 | e :: es, x :: m, i, h, hg => by
  simp only [pairs, encs, List.map_cons, List.cons.injEq, Prod.mk.injEq] at h
  unfold mget at hg
  split at hg
  ·rename_i hx
   injection hg with hg
   refine ⟨0, e, ?_, rfl, by rw [h.1.1, hx], fun u => ?_, ?_⟩
   ·unfold Instr.findNow
    rw [h.1.1, K.same, decide_eq_true hx]
    simp [h.1.2, hg]
   ·simp only [pairs, encs, mput, if_pos hx, List.modify_zero_cons, List.map_cons, List.cons.injEq, true_and]
    exact h.2
   ·simp only [mdel, if_pos hx, List.eraseIdx_cons_zero]
    exact h.2
  ·rename_i hx
   obtain ⟨j, e', h1, h2, h3, h4, h5⟩ := find_there K k v es m (i + 1) h.2 hg
   refine ⟨j + 1, e', ?_, by simpa using h2, h3, fun u => ?_, ?_⟩
   ·unfold Instr.findNow
    rw [h.1.1, K.same, decide_eq_false hx]
    simp only [h1]
    congr 3
    omega
   ·have := h4 u
    simp only [pairs, encs, mput, if_neg hx, List.modify_succ_cons, List.map_cons, List.cons.injEq, Prod.mk.injEq] at this ⊢
    exact ⟨h.1, this⟩
   ·simp only [pairs, encs, mdel, if_neg hx, List.eraseIdx_cons_succ, List.map_cons, List.cons.injEq, Prod.mk.injEq] at h5 ⊢
    exact ⟨h.1, h5⟩
theorem mput_gone : ∀ (m : List (κ × β)) (k : κ) (v : β), mget m k = none → mput m k v = m ++ [(k, v)]
 | [], _, _, _ => rfl
 | x :: m, k, v, h => by
  unfold mget at h
  split at h
  ·cases h
  ·rename_i hx
   rw [mput, if_neg hx, mput_gone m k v h]
   rfl
theorem mdel_gone : ∀ (m : List (κ × β)) (k : κ), mget m k = none → mdel m k = m
 | [], _, _ => rfl
 | x :: m, k, h => by
  unfold mget at h
  split at h
  ·cases h
  ·rename_i hx
   rw [mdel, if_neg hx, mdel_gone m k h]
def mmap (f : β → γ) (m : List (κ × β)) : List (κ × γ) := m.map fun x => (x.1, f x.2)
theorem mget_map (f : β → γ) : ∀ (m : List (κ × β)) (k : κ), mget (mmap f m) k = (mget m k).map f
 | [], _ => rfl
 | x :: m, k => by
  have ih := mget_map f m k
  simp only [mmap, List.map_cons, mget] at ih ⊢
  split
  ·rfl
  ·exact ih
theorem mput_map (f : β → γ) : ∀ (m : List (κ × β)) (k : κ) (v : β), mput (mmap f m) k (f v) = mmap f (mput m k v)
 | [], _, _ => rfl
 | x :: m, k, v => by
  have ih := mput_map f m k v
  simp only [mmap, List.map_cons, mput] at ih ⊢
  split
  ·rfl
  ·simp only [List.map_cons, ih]
theorem mdel_map (f : β → γ) : ∀ (m : List (κ × β)) (k : κ), mdel (mmap f m) k = mmap f (mdel m k)
 | [], _ => rfl
 | x :: m, k => by
  have ih := mdel_map f m k
  simp only [mmap, List.map_cons, mdel] at ih ⊢
  split
  ·rfl
  ·simp only [List.map_cons, ih]
theorem mget_put : ∀ (m : List (κ × β)) (k j : κ) (v : β), mget (mput m k v) j = if k = j then some v else mget m j
 | [], k, j, v => by simp [mput, mget]
 | x :: m, k, j, v => by
  have ih := mget_put m k j v
  unfold mput
  split
  ·rename_i hx
   simp only [mget]
   split
   ·rfl
   ·rename_i hk
    rw [if_neg (by rw [hx]; exact hk)]
  ·rename_i hx
   simp only [mget]
   split
   ·rename_i hj
    rw [if_neg (by rintro rfl; exact hx hj)]
   ·exact ih
def Once (m : List (κ × β)) : Prop := (m.map (·.1)).Nodup
theorem mget_mem : ∀ (m : List (κ × β)) (k : κ), mget m k = none ↔ k ∉ m.map (·.1)
 | [], _ => by simp [mget]
 | x :: m, k => by
  have ih := mget_mem m k
  simp only [mget, List.map_cons, List.mem_cons, not_or]
  split
  ·rename_i hx
   simp [hx]
  ·rename_i hx
   rw [ih]
   exact ⟨fun h => ⟨fun e => hx e.symm, h⟩, fun h => h.2⟩
theorem mget_del : ∀ (m : List (κ × β)) (k j : κ), Once m → mget (mdel m k) j = if k = j then none else mget m j
 | [], k, j, _ => by simp [mdel, mget]
 | x :: m, k, j, h => by
  unfold Once at h
  rw [List.map_cons, List.nodup_cons] at h
  have ih := mget_del m k j h.2
  unfold mdel
  split
  ·rename_i hx
   split
   ·rename_i hk
    rw [mget_mem, ← hk, ← hx]
    exact h.1
   ·rename_i hk
    simp only [mget]
    rw [if_neg (by rw [hx]; exact hk)]
  ·rename_i hx
   simp only [mget]
   split
   ·rename_i hj
    rw [if_neg (by rintro rfl; exact hx hj)]
   ·exact ih
theorem keys_put : ∀ (m : List (κ × β)) (k : κ) (v : β), (mput m k v).map (·.1) = if mget m k = none then m.map (·.1) ++ [k] else m.map (·.1)
 | [], k, v => by simp [mput, mget]
 | x :: m, k, v => by
  have ih := keys_put m k v
  unfold mput mget
  split
  ·rename_i hx
   simp [hx]
  ·rename_i hx
   simp only [List.map_cons, ih]
   split <;> simp
theorem Once.put {m : List (κ × β)} (h : Once m) (k : κ) (v : β) : Once (mput m k v) := by
 unfold Once at h ⊢
 rw [keys_put]
 split
 ·rename_i hg
  rw [mget_mem] at hg
  rw [List.nodup_append]
  exact ⟨h, by simp, fun a ha b hb e => hg (by rw [List.mem_singleton] at hb; subst hb; subst e; exact ha)⟩
 ·exact h
theorem keys_del : ∀ (m : List (κ × β)) (k : κ), (mdel m k).map (·.1) = (m.map (·.1)).erase k
 | [], _ => rfl
 | x :: m, k => by
  have ih := keys_del m k
  unfold mdel
  split
  ·rename_i hx
   simp [hx]
  ·rename_i hx
   simp only [List.map_cons, ih]
   rw [List.erase_cons_tail (by simpa using hx)]
theorem Once.del {m : List (κ × β)} (h : Once m) (k : κ) : Once (mdel m k) := by
 unfold Once at h ⊢
 rw [keys_del]
 exact h.erase k
theorem len_put (m : List (κ × β)) (k : κ) (v : β) : (mput m k v).length = if mget m k = none then m.length + 1 else m.length := by
 have := congrArg List.length (keys_put m k v)
 rw [List.length_map] at this
 rw [this]
 split <;> simp
theorem enc_inj {kind : TypeDesc} {enc : κ → Value} (K : Keyed kind enc) {a b : κ} (h : enc a = enc b) : a = b := by
 have h1 := K.same a b
 rw [← h, K.same a a] at h1
 have h2 := Option.some.inj h1
 simp only [decide_true] at h2
 exact (of_decide_eq_true h2.symm).symm
theorem far_keys {kind : TypeDesc} {enc : κ → Value} (K : Keyed kind enc) {k : κ} {es : List MapEntry} {m : List (κ × Value)} (h : pairs es = encs enc m) (hg : mget m k = none) : ∀ x ∈ es, x.key ≠ enc k := by
 intro x hx e
 have h1 : (x.key, x.val) ∈ encs enc m := by rw [← h]; exact List.mem_map_of_mem (f := fun e : MapEntry => (e.key, e.val)) hx
 obtain ⟨y, hy, h2⟩ := List.mem_map.1 h1
 have h3 := (Prod.mk.inj h2).1
 exact (mget_mem m k).1 hg (by rw [← enc_inj K (h3.trans e)]; exact List.mem_map_of_mem (f := (·.1)) hy)
def IsMap (enc : κ → Value) (w : World) (r : Nat) (m : List (κ × Value)) : Prop := ∃ es c, w.heap[r]? = some (.map es c) ∧ pairs es.toList = encs enc m ∧ MapKept.Stamped es c
theorem IsMap.new (enc : κ → Value) (w : World) : IsMap enc (w.alloc (.map #[] 0)) w.heap.size [] := ⟨#[], 0, heap_alloc_new w _, rfl, MapKept.stamped_empty 0⟩
theorem IsMap.lt {enc : κ → Value} {w : World} {r : Nat} {m : List (κ × Value)} (h : IsMap enc w r m) : r < w.heap.size := by
 obtain ⟨es, c, hb, _, _⟩ := h
 rcases Nat.lt_or_ge r w.heap.size with hlt | hge
 ·exact hlt
 ·rw [Array.getElem?_eq_none hge] at hb; cases hb
theorem IsMap.of {enc : κ → Value} {w w' : World} {r : Nat} {m : List (κ × Value)} (h : IsMap enc w r m) (e : w'.heap[r]? = w.heap[r]?) : IsMap enc w' r m := by
 obtain ⟨es, c, hb, h2, h3⟩ := h
 exact ⟨es, c, e.trans hb, h2, h3⟩
variable {P : Program} {T K E : TypeId} {kind : TypeDesc} {enc : κ → Value}
theorem run_mget (Kd : Keyed kind enc) (hT : P.underlying T = some (.map K E)) (hK : P.underlying K = some kind) {w : World} {r : Nat} {m : List (κ × Value)} (h : IsMap enc w r m) (k : κ) (v : Value) (hg : mget m k = some v) (ok : Bool) :
  (Instr.lookup T (.map (some r)) (enc k) ok).run P w = .ok (if ok then .tuple #[v, .bool true] else v) w := by
 obtain ⟨es, c, hb, h2, hst⟩ := h
 obtain ⟨j, e, h1, _⟩ := find_there Kd k v es.toList m 0 h2 hg
 simp only [Instr.lookup, Sem.run_bind, run_underlying hT, Result.andThen_ok, MapKept.run_getObj_map hb, Sem.run_pure, run_checkKey_plain hK Kd.plain, run_findKey_plain hK h1]
theorem run_mget_none (Kd : Keyed kind enc) (hT : P.underlying T = some (.map K E)) (hK : P.underlying K = some kind) {w : World} {r : Nat} {m : List (κ × Value)} (h : IsMap enc w r m) (k : κ) (z : Value) (hz : (zeroValue E).run P w = .ok z w) (hg : mget m k = none) (ok : Bool) :
  (Instr.lookup T (.map (some r)) (enc k) ok).run P w = .ok (if ok then .tuple #[z, .bool false] else z) w := by
 obtain ⟨es, c, hb, h2, hst⟩ := h
 have h1 := find_gone Kd k es.toList m 0 h2 hg
 simp only [Instr.lookup, Sem.run_bind, run_underlying hT, Result.andThen_ok, MapKept.run_getObj_map hb, Sem.run_pure, run_checkKey_plain hK Kd.plain, run_findKey_plain hK h1, hz]
structure Mapped (w w' : World) (r : Nat) : Prop where
 other : ∀ i, i ≠ r → w'.heap[i]? = w.heap[i]?
 size : w'.heap.size = w.heap.size
 os : w'.os = w.os
 tape : w'.tape = w.tape
 output : w'.output = w.output
theorem mapped_set {w : World} {r : Nat} (o : Obj) : Mapped w { w with heap := w.heap.setIfInBounds r o } r :=
 ⟨fun i hi => by simp [Array.getElem?_setIfInBounds, Ne.symm hi], by simp, rfl, rfl, rfl⟩
theorem run_mput (Kd : Keyed kind enc) (hT : P.underlying T = some (.map K E)) (hK : P.underlying K = some kind) {w : World} {r : Nat} {m : List (κ × Value)} (h : IsMap enc w r m) (k : κ) (v : Value) :
  ∃ w', (Instr.mapUpdate T (.map (some r)) (enc k) v).run P w = .ok () w' ∧ IsMap enc w' r (mput m k v) ∧ Mapped w w' r := by
 have hr := h.lt
 obtain ⟨es, c, hb, h2, hst⟩ := h
 cases hg : mget m k with
 | none =>
  have h1 := find_gone Kd k es.toList m 0 h2 hg
  refine ⟨_, ?_, ?_, mapped_set (r := r) (.map (es.push { key := enc k, val := v, born := c }) (c + 1))⟩
  ·simp only [Instr.mapUpdate, Sem.run_bind, run_underlying hT, Result.andThen_ok, MapKept.run_getObj_map hb, run_checkKey_plain hK Kd.plain, run_findKey_plain hK h1]
   simp only [MapKept.run_setObj_map _ hb]
  ·refine ⟨es.push { key := enc k, val := v, born := c }, c + 1, by simp [hr], ?_, MapKept.stamped_push hst (fun x hx => far_keys Kd h2 hg x hx)⟩
   rw [mput_gone m k v hg]
   simp only [pairs, encs, Array.toList_push, List.map_append, List.map_cons, List.map_nil]
   congr 1
 | some u =>
  obtain ⟨j, e, h1, h3, h4, h5, _⟩ := find_there Kd k u es.toList m 0 h2 hg
  rw [Nat.zero_add] at h1
  have h3' : es[j]? = some e := by rw [← Array.getElem?_toList]; exact h3
  refine ⟨_, ?_, ?_, mapped_set (r := r) (.map (es.modify j fun e => { e with key := enc k, val := v }) c)⟩
  ·simp only [Instr.mapUpdate, Sem.run_bind, run_underlying hT, Result.andThen_ok, MapKept.run_getObj_map hb, run_checkKey_plain hK Kd.plain, run_findKey_plain hK h1, h3', Option.map_some, Option.getD_some, h4, Instr.keyThatStays, Kd.bits, if_true, Sem.run_pure]
   simp only [MapKept.run_setObj_map _ hb]
  ·refine ⟨es.modify j fun e => { e with key := enc k, val := v }, c, by simp [hr], ?_, MapKept.stamped_modify hst j _ (fun _ _ => rfl) (fun e' _ he' => by
    rw [h3'] at he'
    obtain rfl := Option.some.inj he'
    exact h4.symm)⟩
   rw [Array.toList_modify]
   exact h5 v
theorem run_mdel (Kd : Keyed kind enc) (hT : P.underlying T = some (.map K E)) (hK : P.underlying K = some kind) {w : World} {r : Nat} {m : List (κ × Value)} (h : IsMap enc w r m) (ty : TypeId) (k : κ) :
  ∃ w', (Builtin.delete_ #[T, K] ty #[.map (some r), enc k]).run P w = .ok (.tuple #[]) w' ∧ IsMap enc w' r (mdel m k) ∧ Mapped w w' r := by
 have hr := h.lt
 obtain ⟨es, c, hb, h2, hst⟩ := h
 cases hg : mget m k with
 | none =>
  have h1 := find_gone Kd k es.toList m 0 h2 hg
  refine ⟨_, ?_, ?_, mapped_set (r := r) (.map es c)⟩
  ·simp only [Builtin.delete_, List.getElem?_toArray, List.getElem?_cons_zero, List.getElem?_cons_succ, Sem.run_bind, run_underlying hT, Result.andThen_ok, MapKept.run_getObj_map hb, run_checkKey_plain hK Kd.plain, run_findKey_plain hK h1]
   simp only [MapKept.run_setObj_map _ hb, Sem.run_pure, Result.andThen_ok]
  ·exact ⟨es, c, by simp [hr], by rw [mdel_gone m k hg]; exact h2, hst⟩
 | some u =>
  obtain ⟨j, e, h1, h3, h4, _, h5⟩ := find_there Kd k u es.toList m 0 h2 hg
  rw [Nat.zero_add] at h1
  have hj : j < es.size := by
   have := (List.getElem?_eq_some_iff.1 h3).1
   simpa using this
  refine ⟨_, ?_, ?_, mapped_set (r := r) (.map (es.eraseIdxIfInBounds j) c)⟩
  ·simp only [Builtin.delete_, List.getElem?_toArray, List.getElem?_cons_zero, List.getElem?_cons_succ, Sem.run_bind, run_underlying hT, Result.andThen_ok, MapKept.run_getObj_map hb, run_checkKey_plain hK Kd.plain, run_findKey_plain hK h1]
   simp only [MapKept.run_setObj_map _ hb, Sem.run_pure, Result.andThen_ok]
  ·refine ⟨es.eraseIdxIfInBounds j, c, by simp [hr], ?_, MapKept.stamped_erase hst j⟩
   have e1 : (es.eraseIdxIfInBounds j).toList = es.toList.eraseIdx j := by
    unfold Array.eraseIdxIfInBounds
    rw [dif_pos hj]
    simp
   rw [e1]
   exact h5
theorem run_mlen (hT : P.underlying T = some (.map K E)) {w : World} {r : Nat} {m : List (κ × Value)} (h : IsMap enc w r m) (ty : TypeId) : (Builtin.len_ #[T] ty #[.map (some r)]).run P w = .ok (.int .i64 m.length) w := by
 obtain ⟨es, c, hb, h2, _⟩ := h
 have e1 : es.size = m.length := by
  have := congrArg List.length h2
  simpa [pairs, encs] using this
 rw [← e1]
 simp [Builtin.len_, run_underlying hT, MapKept.run_getObj_map hb, goInt, Result.andThen]
section
variable {ops : Array Oper} {rest : List Oper} {o : Oper} {a : Act} {w : World} {Q : Exit → Act → World → Prop}
theorem wpList_mput (hgd : o.guard = none) (m x y : Operand) (t : TypeId) (ho : o.op = .mapUpdate t m x y) (Kd : Keyed kind enc) (hT : P.underlying t = some (.map K E)) (hK : P.underlying K = some kind) (r : Nat) (k : κ) (v : Value)
  (hm : a.eval m = .map (some r)) (hx : a.eval x = enc k) (hy : a.eval y = v) {mm : List (κ × Value)} (h : IsMap enc w r mm) (hk : ∀ w', IsMap enc w' r (mput mm k v) → Mapped w w' r → wpList P ops Q rest (a.put o.dst undef) w') : wpList P ops Q (o :: rest) a w := by
 refine wpList_plain hgd fun K' hK' => ?_
 obtain ⟨w', hrun, r1, r2⟩ := run_mput Kd hT hK h k v
 unfold Oper.wp
 simp [execOp, ho, hm, hx, hy, hrun, Result.andThen]
 exact hK' _ _ (hk w' r1 r2)
theorem wpList_mdel (hgd : o.guard = none) (m x : Operand) (t : TypeId) (ho : o.op = .call { callee := .builtin .delete, args := #[m, x], argTypes := #[t, K] }) (Kd : Keyed kind enc) (hT : P.underlying t = some (.map K E)) (hK : P.underlying K = some kind) (r : Nat) (k : κ)
  (hm : a.eval m = .map (some r)) (hx : a.eval x = enc k) {mm : List (κ × Value)} (h : IsMap enc w r mm) (hk : ∀ w', IsMap enc w' r (mdel mm k) → Mapped w w' r → wpList P ops Q rest (a.put o.dst (.tuple #[])) w') : wpList P ops Q (o :: rest) a w := by
 refine wpList_plain hgd fun K' hK' => ?_
 obtain ⟨w', hrun, r1, r2⟩ := run_mdel Kd hT hK h o.type k
 unfold Oper.wp
 simp [execOp, ho, resolve, invoke, builtin, hm, hx, hrun, Result.andThen]
 exact hK' _ _ (hk w' r1 r2)
theorem wpList_mlen (hgd : o.guard = none) (m : Operand) (t : TypeId) (ho : o.op = .call { callee := .builtin .len, args := #[m], argTypes := #[t] }) (hT : P.underlying t = some (.map K E)) (r : Nat) (hm : a.eval m = .map (some r)) {mm : List (κ × Value)} (h : IsMap enc w r mm)
  (hk : wpList P ops Q rest (a.put o.dst (.int .i64 mm.length)) w) : wpList P ops Q (o :: rest) a w := by
 refine wpList_plain hgd fun K' hK' => ?_
 unfold Oper.wp
 simp [execOp, ho, resolve, invoke, builtin, hm, run_mlen hT h o.type, Result.andThen]
 exact hK' _ _ hk
end
end
theorem bits_int (n : Nat) (kd : IntKind) (a : Int) : Instr.sameBits n (.int kd a) (.int kd a) = true := by
 cases n <;> (unfold Instr.sameBits; simp)
theorem bits_str (n : Nat) (a : ByteArray) : Instr.sameBits n (.string a) (.string a) = true := by
 cases n <;> (unfold Instr.sameBits; exact beq_self_eq_true a.data)
theorem keyed_int (kd : IntKind) : Keyed (κ := Int) (.int kd) (fun n => .int kd n) :=
 ⟨fun a b => by
  simp only [Instr.sameNow, if_true]
  congr 1
  rw [Bool.eq_iff_iff, beq_iff_eq, decide_eq_true_eq]
  exact ⟨Eq.symm, Eq.symm⟩, fun a => bits_int 10000 kd a, rfl⟩
theorem keyed_str : Keyed (κ := ByteArray) .string Value.string :=
 ⟨fun a b => by
  show some (a.data == b.data) = _
  congr 1
  rw [Bool.eq_iff_iff, beq_iff_eq, decide_eq_true_eq]
  exact ⟨fun h => (ByteArray.ext h).symm, fun h => by rw [h]⟩, fun a => bits_str 10000 a, rfl⟩
end Go.Proofs.YtfagldjhibdfhaaGreatDoor
namespace Go.Proofs.YtfagldjhibdfhaaGreatDoor
open Go.RowKit
set_option linter.unusedVariables false
set_option linter.unusedSimpArgs false

instance : DecidableEq Vl := fun a b =>
 if h : a.k = b.k ∧ a.n = b.n ∧ a.s = b.s then .isTrue (by cases a; cases b; simp_all) else .isFalse (by rintro rfl; exact h ⟨rfl, rfl, rfl⟩)
theorem Vl.eta {a b : Vl} (h1 : a.k = b.k) (h2 : a.n = b.n) (h3 : a.s = b.s) : a = b := by cases a; cases b; simp_all
def sKey : ByteArray := ⟨#[107, 101, 121]⟩
abbrev Tb := List (Vl × Vl)
structure Hp where
 tabs : List Tb
 cells : Int
 spent : Int
def iK (n : Int) : Vl := ⟨2, n, sNone⟩
def tK (s : ByteArray) : Vl := ⟨3, 0, s⟩
theorem iK_inj {a b : Int} (h : iK a = iK b) : a = b := congrArg Vl.n h
theorem tK_inj {a b : ByteArray} (h : tK a = tK b) : a = b := congrArg Vl.s h
theorem iK_tK (a : Int) (b : ByteArray) : ¬ iK a = tK b := fun h => by have := congrArg Vl.k h; simp [iK, tK] at this
theorem tK_iK (a : Int) (b : ByteArray) : ¬ tK b = iK a := fun h => by have := congrArg Vl.k h; simp [iK, tK] at this
def in64 (n : Int) : Prop := -9223372036854775808 ≤ n ∧ n ≤ 9223372036854775807
structure KOk (k : Vl) : Prop where
 ck : k.ck = true
 kind : k.k = 2 ∨ k.k = 3
 num : in64 k.n
structure VOk (v : Vl) : Prop where
 ck : v.ck = true
 some : ¬ v.k = 0
 num : in64 v.n
structure TbOk (T : Tb) : Prop where
 once : Once T
 key : ∀ x ∈ T, KOk x.1
 val : ∀ x ∈ T, VOk x.2
 most : T.length ≤ 65536
structure HOk (H : Hp) : Prop where
 tab : ∀ T ∈ H.tabs, TbOk T
 low : 0 ≤ H.spent
 le : H.spent ≤ H.cells
 most : H.cells ≤ 9223372036854775807
theorem toList_nil {s : ByteArray} (h : s.toList = []) : s = sNone := by
 rw [Lib.toList_data] at h
 apply ByteArray.ext
 exact Array.toList_inj.1 (h.trans rfl)
theorem KOk.form {k : Vl} (h : KOk k) : (k.k = 2 ∧ k = iK k.n) ∨ (k.k = 3 ∧ k = tK k.s) := by
 have hc := h.ck
 unfold Vl.ck checkB at hc
 rcases h.kind with h2 | h3
 ·refine .inl ⟨h2, Vl.eta h2 rfl ?_⟩
  simp [h2] at hc
  exact toList_nil (by first | exact hc | simpa using hc)
 ·refine .inr ⟨h3, Vl.eta h3 ?_ rfl⟩
  simp [h3] at hc
  exact hc.1
theorem sNone_list : sNone.toList = [] := by rw [Lib.toList_data]; rfl
theorem ck_zero : Vl.zero.ck = true := by
 have : (⟨#[]⟩ : ByteArray).toList = [] := sNone_list
 simp [Vl.ck, checkB, Vl.zero, this]
def tget (T : Tb) (k : Vl) : Vl := (mget T k).getD Vl.zero
def tput (T : Tb) (k v : Vl) : Tb := if v.k = 0 then mdel T k else mput T k v
theorem mem_of_mget {κ β : Type} [DecidableEq κ] : ∀ {m : List (κ × β)} {k : κ} {v : β}, mget m k = some v → (k, v) ∈ m
 | x :: m, k, v, h => by
  unfold mget at h
  split at h
  ·rename_i hx
   obtain rfl := Option.some.inj h
   rw [← hx]
   exact List.mem_cons_self
  ·exact List.mem_cons_of_mem _ (mem_of_mget h)
theorem mget_of_mem {κ β : Type} [DecidableEq κ] : ∀ {m : List (κ × β)} {k : κ} {v : β}, Once m → (k, v) ∈ m → mget m k = some v
 | x :: m, k, v, ho, h => by
  unfold Once at ho
  rw [List.map_cons, List.nodup_cons] at ho
  unfold mget
  rcases List.mem_cons.1 h with h | h
  ·subst h; simp
  ·split
   ·rename_i hx
    exact absurd (List.mem_map_of_mem h (f := (·.1))) (by rw [← hx]; exact ho.1)
   ·exact mget_of_mem ho.2 h
theorem TbOk.some {T : Tb} (h : TbOk T) (k : Vl) : (tget T k).k = 0 ↔ mget T k = none := by
 unfold tget
 cases hm : mget T k with
 | none => simp [Vl.zero]
 | some v => simpa using (h.val _ (mem_of_mget hm)).some
theorem TbOk.got {T : Tb} (h : TbOk T) (k : Vl) : in64 (tget T k).n ∧ (tget T k).ck = true ∧ (tget T k).s.size ≤ 1048576 := by
 unfold tget
 cases hm : mget T k with
 | none => exact ⟨⟨by decide, by decide⟩, ck_zero, by decide⟩
 | some v =>
  have hv := h.val _ (mem_of_mget hm)
  refine ⟨hv.num, hv.ck, ?_⟩
  have hc := hv.ck
  unfold Vl.ck checkB at hc
  simp only [Option.getD_some]
  by_cases h3 : v.k = 3
  ·simp [h3] at hc
   omega
  ·have hz : v.s.toList = [] → v.s.size ≤ 1048576 := fun he => by rw [toList_nil he]; decide
   have h0 := hv.some
   by_cases h1 : v.k = 1
   ·simp [h1] at hc; exact hz (by simpa using hc.1)
   ·by_cases h2 : v.k = 2
    ·simp [h2] at hc; exact hz (by simpa using hc)
    ·by_cases h4 : v.k = 4
     ·simp [h4] at hc; exact hz (by simpa using hc.1)
     ·simp [h0, h1, h2, h3, h4] at hc
theorem len_del {κ β : Type} [DecidableEq κ] (m : List (κ × β)) (k : κ) (h : Once m) : (mdel m k).length = if mget m k = none then m.length else m.length - 1 := by
 have e := congrArg List.length (keys_del m k)
 rw [List.length_map] at e
 rw [e, List.length_erase]
 have hm := mget_mem m k
 by_cases hc : mget m k = none
 ·rw [if_pos hc, if_neg (hm.1 hc), List.length_map]
 ·rw [if_neg hc, if_pos (by
   rcases Decidable.em (k ∈ m.map (·.1)) with h | h
   ·exact h
   ·exact absurd (hm.2 h) hc), List.length_map]
theorem mem_put {κ β : Type} [DecidableEq κ] : ∀ {m : List (κ × β)} {k : κ} {v : β} {x : κ × β}, x ∈ mput m k v → x = (k, v) ∨ x ∈ m
 | [], k, v, x, h => .inl (by simpa [mput] using h)
 | y :: m, k, v, x, h => by
  unfold mput at h
  split at h
  ·rcases List.mem_cons.1 h with h | h
   ·exact .inl h
   ·exact .inr (List.mem_cons_of_mem _ h)
  ·rcases List.mem_cons.1 h with h | h
   ·exact .inr (by rw [h]; exact List.mem_cons_self)
   ·rcases mem_put h with h | h
    ·exact .inl h
    ·exact .inr (List.mem_cons_of_mem _ h)
theorem mem_del {κ β : Type} [DecidableEq κ] : ∀ {m : List (κ × β)} {k : κ} {x : κ × β}, x ∈ mdel m k → x ∈ m
 | [], k, x, h => h
 | y :: m, k, x, h => by
  unfold mdel at h
  split at h
  ·exact List.mem_cons_of_mem _ h
  ·rcases List.mem_cons.1 h with h | h
   ·rw [h]; exact List.mem_cons_self
   ·exact List.mem_cons_of_mem _ (mem_del h)
theorem TbOk.put {T : Tb} (h : TbOk T) {k v : Vl} (hk : KOk k) (hv : v.ck = true) (hn : in64 v.n) (hf : (tget T k).k = 0 → ¬ v.k = 0 → T.length < 65536) : TbOk (tput T k v) := by
 unfold tput
 split
 ·refine ⟨h.once.del k, fun x hx => h.key x (mem_del hx), fun x hx => h.val x (mem_del hx), ?_⟩
  rw [len_del T k h.once]
  have := h.most
  split <;> omega
 ·rename_i hz
  refine ⟨h.once.put k v, fun x hx => ?_, fun x hx => ?_, ?_⟩
  ·rcases mem_put hx with rfl | hx
   ·exact hk
   ·exact h.key x hx
  ·rcases mem_put hx with rfl | hx
   ·exact ⟨hv, hz, hn⟩
   ·exact h.val x hx
  ·rw [len_put]
   have := h.most
   split
   ·rename_i hm
    have := hf ((h.some k).2 hm) hz
    omega
   ·exact this
theorem tbOk_nil : TbOk [] := ⟨List.nodup_nil, fun x h => (List.not_mem_nil h).elim, fun x h => (List.not_mem_nil h).elim, Nat.zero_le _⟩
def lenFrom (T : Tb) : Nat → Nat → Nat
 | 0, n => n
 | f + 1, n => if (tget T (iK (n + 1))).k = 0 then n else lenFrom T f (n + 1)
def tlen (T : Tb) : Nat := lenFrom T T.length 0
theorem run_of_keys {T : Tb} (h : TbOk T) (n : Nat) (hn : ∀ i : Nat, i < n → ¬ (tget T (iK (i + 1))).k = 0) : n ≤ T.length := by
 have hs : ((List.range n).map fun i : Nat => iK (i + 1)).Nodup := by
  refine List.pairwise_map.2 ((List.pairwise_lt_range (n := n)).imp ?_)
  intro a b hab e
  have := iK_inj e
  omega
 have hsub : ((List.range n).map fun i : Nat => iK (i + 1)) ⊆ T.map (·.1) := by
  intro x hx
  obtain ⟨i, hi, rfl⟩ := List.mem_map.1 hx
  have := hn i (List.mem_range.1 hi)
  rw [h.some] at this
  rcases Decidable.em (iK (i + 1) ∈ T.map (·.1)) with hm | hm
  ·exact hm
  ·exact absurd ((mget_mem T _).2 hm) this
 have := hs.length_le_of_subset hsub
 simpa using this
theorem lenFrom_spec {T : Tb} (h : TbOk T) : ∀ (f n : Nat), n + f = T.length → (∀ i : Nat, i < n → ¬ (tget T (iK (i + 1))).k = 0) →
  (tget T (iK (lenFrom T f n + 1))).k = 0 ∧ ∀ i : Nat, i < lenFrom T f n → ¬ (tget T (iK (i + 1))).k = 0
 | 0, n, hf, hn => by
  refine ⟨?_, hn⟩
  unfold lenFrom
  rcases Decidable.em ((tget T (iK (n + 1))).k = 0) with hz | hz
  ·exact hz
  ·have := run_of_keys h (n + 1) (fun i hi => by
    rcases Nat.lt_or_ge i n with h1 | h1
    ·exact hn i h1
    ·obtain rfl : i = n := by omega
     exact hz)
   omega
 | f + 1, n, hf, hn => by
  unfold lenFrom
  split
  ·rename_i hz; exact ⟨hz, hn⟩
  ·rename_i hz
   exact lenFrom_spec h f (n + 1) (by omega) (fun i hi => by
    rcases Nat.lt_or_ge i n with h1 | h1
    ·exact hn i h1
    ·obtain rfl : i = n := by omega
     exact hz)
theorem tlen_end {T : Tb} (h : TbOk T) : (tget T (iK (tlen T + 1))).k = 0 := (lenFrom_spec h _ 0 (Nat.zero_add _) (fun i hi => by omega)).1
theorem tlen_in {T : Tb} (h : TbOk T) (i : Nat) (hi : i < tlen T) : ¬ (tget T (iK (i + 1))).k = 0 := (lenFrom_spec h _ 0 (Nat.zero_add _) (fun i hi => by omega)).2 i hi
theorem tlen_le {T : Tb} (h : TbOk T) : tlen T ≤ T.length := run_of_keys h _ (tlen_in h)
def intsOf (T : Tb) : List Int := (T.filter fun x => decide (x.1.k = 2)).map fun x => x.1.n
def textsOf (T : Tb) : List (List UInt8) := (T.filter fun x => decide (x.1.k = 3)).map fun x => x.1.s.data.toList
def keysL (T : Tb) : List Vl := ((intsOf T).mergeSort fun x y => decide (x ≤ y)).map iK ++ ((textsOf T).mergeSort fun x y => decide (x ≤ y)).map fun l => tK ⟨l.toArray⟩
theorem ba_eta (s : ByteArray) : (⟨s.data.toList.toArray⟩ : ByteArray) = s := by cases s; simp
theorem mem_ints {T : Tb} (h : TbOk T) (n : Int) : n ∈ intsOf T ↔ ¬ mget T (iK n) = none := by
 rw [mget_mem, Classical.not_not]
 unfold intsOf
 simp only [List.mem_map, List.mem_filter, decide_eq_true_eq]
 constructor
 ·rintro ⟨x, ⟨hx, hk⟩, rfl⟩
  refine ⟨x, hx, ?_⟩
  rcases (h.key x hx).form with ⟨_, h2⟩ | ⟨h3, _⟩
  ·exact h2
  ·omega
 ·rintro ⟨x, hx, e⟩
  exact ⟨x, ⟨hx, by rw [e]; rfl⟩, by rw [e]; rfl⟩
theorem mem_texts {T : Tb} (h : TbOk T) (l : List UInt8) : l ∈ textsOf T ↔ ¬ mget T (tK ⟨l.toArray⟩) = none := by
 rw [mget_mem, Classical.not_not]
 unfold textsOf
 simp only [List.mem_map, List.mem_filter, decide_eq_true_eq]
 constructor
 ·rintro ⟨x, ⟨hx, hk⟩, rfl⟩
  refine ⟨x, hx, ?_⟩
  rcases (h.key x hx).form with ⟨h2, _⟩ | ⟨_, h3⟩
  ·omega
  ·rw [ba_eta]; exact h3
 ·rintro ⟨x, hx, e⟩
  exact ⟨x, ⟨hx, by rw [e]; rfl⟩, by rw [e]; rfl⟩
theorem nodup_filter_map {α β : Type} {p : Vl × Vl → Bool} {f : Vl × Vl → β} {T : Tb} (ho : Once T) (hf : ∀ x ∈ T, ∀ y ∈ T, p x = true → p y = true → f x = f y → x.1 = y.1) : ((T.filter p).map f).Nodup := by
 induction T with
 | nil => exact List.nodup_nil
 | cons x T ih =>
  unfold Once at ho
  rw [List.map_cons, List.nodup_cons] at ho
  have ih := ih ho.2 (fun a ha b hb => hf a (List.mem_cons_of_mem _ ha) b (List.mem_cons_of_mem _ hb))
  rw [List.filter_cons]
  split
  ·rename_i hp
   rw [List.map_cons, List.nodup_cons]
   refine ⟨fun hm => ?_, ih⟩
   obtain ⟨y, hy, e⟩ := List.mem_map.1 hm
   obtain ⟨hy1, hy2⟩ := List.mem_filter.1 hy
   have := hf x List.mem_cons_self y (List.mem_cons_of_mem _ hy1) hp hy2 e.symm
   exact ho.1 (by rw [this]; exact List.mem_map_of_mem hy1)
  ·exact ih
theorem ints_nodup {T : Tb} (h : TbOk T) : (intsOf T).Nodup := nodup_filter_map (α := Int) h.once fun x hx y hy px py e => by
 rcases (h.key x hx).form with ⟨_, h2⟩ | ⟨h3, _⟩
 ·rcases (h.key y hy).form with ⟨_, h4⟩ | ⟨h5, _⟩
  ·rw [h2, h4, e]
  ·simp at py; omega
 ·simp at px; omega
theorem texts_nodup {T : Tb} (h : TbOk T) : (textsOf T).Nodup := nodup_filter_map (α := Int) h.once fun x hx y hy px py e => by
 rcases (h.key x hx).form with ⟨h2, _⟩ | ⟨_, h3⟩
 ·simp at px; omega
 ·rcases (h.key y hy).form with ⟨h4, _⟩ | ⟨_, h5⟩
  ·simp at py; omega
  ·rw [h3, h5, ← ba_eta x.1.s, ← ba_eta y.1.s, e]
theorem keys_len {T : Tb} (h : TbOk T) : (intsOf T).length + (textsOf T).length = T.length := by
 have e : (T.filter fun x => decide (x.1.k = 3)) = T.filter fun x => !decide (x.1.k = 2) := List.filter_congr fun x hx => by
  rcases (h.key x hx).kind with h2 | h3
  ·simp [h2]
  ·simp [h3]
 unfold intsOf textsOf
 rw [List.length_map, List.length_map, e]
 have := (List.filter_append_perm (fun x : Vl × Vl => decide (x.1.k = 2)) T).length_eq
 rw [List.length_append] at this
 exact this
structure TRep (mi : List (Int × Vl)) (mt : List (ByteArray × Vl)) (T : Tb) : Prop where
 oi : Once mi
 ot : Once mt
 ints : ∀ n, mget T (iK n) = mget mi n
 texts : ∀ s, mget T (tK s) = mget mt s
 count : T.length = mi.length + mt.length
theorem TRep.nil : TRep [] [] [] := ⟨List.nodup_nil, List.nodup_nil, fun _ => rfl, fun _ => rfl, rfl⟩
theorem TRep.puti {mi : List (Int × Vl)} {mt : List (ByteArray × Vl)} {T : Tb} (h : TRep mi mt T) (ho : Once T) (n : Int) (v : Vl) : TRep (mput mi n v) mt (mput T (iK n) v) :=
 ⟨h.oi.put n v, h.ot, fun j => by
  rw [mget_put, mget_put, h.ints]
  by_cases e : n = j
  ·rw [if_pos e, if_pos (by rw [e])]
  ·rw [if_neg e, if_neg (fun h => e (iK_inj h))], fun s => by
  rw [mget_put, if_neg (iK_tK n s), h.texts], by
  rw [len_put, len_put, h.ints, h.count]
  split <;> omega⟩
theorem TRep.putt {mi : List (Int × Vl)} {mt : List (ByteArray × Vl)} {T : Tb} (h : TRep mi mt T) (ho : Once T) (s : ByteArray) (v : Vl) : TRep mi (mput mt s v) (mput T (tK s) v) :=
 ⟨h.oi, h.ot.put s v, fun n => by
  rw [mget_put, if_neg (tK_iK n s), h.ints], fun j => by
  rw [mget_put, mget_put, h.texts]
  by_cases e : s = j
  ·rw [if_pos e, if_pos (by rw [e])]
  ·rw [if_neg e, if_neg (fun h => e (tK_inj h))], by
  rw [len_put, len_put, h.texts, h.count]
  split <;> omega⟩
theorem len_pos_of {κ β : Type} [DecidableEq κ] {m : List (κ × β)} {k : κ} (h : ¬ mget m k = none) : 0 < m.length := by
 cases m with
 | nil => exact absurd rfl h
 | cons _ _ => exact Nat.succ_pos _
theorem TRep.deli {mi : List (Int × Vl)} {mt : List (ByteArray × Vl)} {T : Tb} (h : TRep mi mt T) (ho : Once T) (n : Int) : TRep (mdel mi n) mt (mdel T (iK n)) :=
 ⟨h.oi.del n, h.ot, fun j => by
  rw [mget_del _ _ _ ho, mget_del _ _ _ h.oi, h.ints]
  by_cases e : n = j
  ·rw [if_pos e, if_pos (by rw [e])]
  ·rw [if_neg e, if_neg (fun h => e (iK_inj h))], fun s => by
  rw [mget_del _ _ _ ho, if_neg (iK_tK n s), h.texts], by
  rw [len_del _ _ ho, len_del _ _ h.oi, h.ints, h.count]
  split
  ·rfl
  ·rename_i hm
   have := len_pos_of hm
   omega⟩
theorem TRep.delt {mi : List (Int × Vl)} {mt : List (ByteArray × Vl)} {T : Tb} (h : TRep mi mt T) (ho : Once T) (s : ByteArray) : TRep mi (mdel mt s) (mdel T (tK s)) :=
 ⟨h.oi, h.ot.del s, fun n => by
  rw [mget_del _ _ _ ho, if_neg (tK_iK n s), h.ints], fun j => by
  rw [mget_del _ _ _ ho, mget_del _ _ _ h.ot, h.texts]
  by_cases e : s = j
  ·rw [if_pos e, if_pos (by rw [e])]
  ·rw [if_neg e, if_neg (fun h => e (tK_inj h))], by
  rw [len_del _ _ ho, len_del _ _ h.ot, h.texts, h.count]
  split
  ·rfl
  ·rename_i hm
   have := len_pos_of hm
   omega⟩
theorem TRep.keysi {mi : List (Int × Vl)} {mt : List (ByteArray × Vl)} {T : Tb} (h : TRep mi mt T) (hT : TbOk T) : (mi.map (·.1)).Perm (intsOf T) := by
 rw [List.perm_ext_iff_of_nodup h.oi (ints_nodup hT)]
 intro n
 rw [mem_ints hT, h.ints, mget_mem, Classical.not_not]
theorem TRep.keyst {mi : List (Int × Vl)} {mt : List (ByteArray × Vl)} {T : Tb} (h : TRep mi mt T) (hT : TbOk T) : (mt.map fun x => x.1.data.toList).Perm (textsOf T) := by
 have hn : (mt.map fun x => x.1.data.toList).Nodup := by
  have := h.ot
  unfold Once at this
  refine List.pairwise_map.2 ((List.pairwise_map.1 this).imp fun hab e => hab ?_)
  rw [← ba_eta (_ : ByteArray × Vl).1, e, ba_eta]
 rw [List.perm_ext_iff_of_nodup hn (texts_nodup hT)]
 intro l
 rw [mem_texts hT, h.texts, mget_mem, Classical.not_not]
 simp only [List.mem_map]
 constructor
 ·rintro ⟨x, hx, rfl⟩
  exact ⟨x, hx, by rw [ba_eta]⟩
 ·rintro ⟨x, hx, e⟩
  exact ⟨x, hx, by rw [e]⟩
structure TRow (L T : Tb) : Prop where
 once : Once L
 get : ∀ k, mget T k = mget L k
 count : T.length = L.length
theorem TRow.nil : TRow [] [] := ⟨List.nodup_nil, fun _ => rfl, rfl⟩
def drop1 (L : Tb) (k : Vl) : Tb := L.filter fun x => !decide (x.1 = k)
theorem mget_drop1 (L : Tb) (k j : Vl) : mget (drop1 L k) j = if k = j then none else mget L j := by
 unfold drop1
 induction L with
 | nil => simp [mget]
 | cons x L ih =>
  rw [List.filter_cons]
  by_cases hx : x.1 = k
  ·simp only [hx, decide_true, Bool.not_true, Bool.false_eq_true, if_false]
   rw [ih]
   by_cases e : k = j
   ·rw [if_pos e, if_pos e]
   ·rw [if_neg e, if_neg e, mget, if_neg (by rw [hx]; exact e)]
  ·simp only [hx, decide_false, Bool.not_false, if_true]
   unfold mget
   rw [ih]
   by_cases e : x.1 = j
   ·rw [if_pos e, if_pos e, if_neg (by rintro rfl; exact hx e)]
   ·rw [if_neg e, if_neg e]
theorem once_drop1 {L : Tb} (h : Once L) (k : Vl) : Once (drop1 L k) := by
 unfold Once drop1 at *
 exact List.Pairwise.sublist (List.filter_sublist.map _) h
theorem len_drop1 {L : Tb} (h : Once L) (k : Vl) : (drop1 L k).length = if mget L k = none then L.length else L.length - 1 := by
 unfold drop1
 induction L with
 | nil => simp [mget]
 | cons x L ih =>
  unfold Once at h
  rw [List.map_cons, List.nodup_cons] at h
  have ih := ih h.2
  rw [List.filter_cons]
  by_cases hx : x.1 = k
  ·have hm : mget L k = none := (mget_mem L k).2 (by rw [← hx]; exact h.1)
   rw [if_pos hm] at ih
   simp only [hx, decide_true, Bool.not_true, Bool.false_eq_true, if_false, mget, if_true, List.length_cons, reduceCtorEq]
   rw [ih]; omega
  ·simp only [hx, decide_false, Bool.not_false, if_true, mget, if_false, List.length_cons]
   rw [ih]
   split
   ·rfl
   ·rename_i hm
    have := len_pos_of hm
    omega
theorem TRow.del {L T : Tb} (h : TRow L T) (ho : Once T) (k : Vl) : TRow (drop1 L k) (mdel T k) :=
 ⟨once_drop1 h.once k, fun j => by rw [mget_del _ _ _ ho, mget_drop1, h.get], by rw [len_del _ _ ho, len_drop1 h.once, h.get, h.count]⟩
theorem mget_snoc {κ β : Type} [DecidableEq κ] : ∀ (m : List (κ × β)) (k j : κ) (v : β), mget m k = none → mget (m ++ [(k, v)]) j = if k = j then some v else mget m j
 | [], k, j, v, _ => by simp [mget]
 | x :: m, k, j, v, h => by
  unfold mget at h
  split at h
  ·cases h
  ·rename_i hx
   rw [List.cons_append]
   unfold mget
   rw [mget_snoc m k j v h]
   by_cases e : x.1 = j
   ·rw [if_pos e, if_pos e, if_neg (by rintro rfl; exact hx e)]
   ·rw [if_neg e, if_neg e]
theorem TRow.put {L T : Tb} (h : TRow L T) (ho : Once T) (k v : Vl) : TRow (drop1 L k ++ [(k, v)]) (mput T k v) := by
 have hg : mget (drop1 L k) k = none := by rw [mget_drop1, if_pos rfl]
 refine ⟨?_, fun j => ?_, ?_⟩
 ·have h1 := once_drop1 h.once k
  unfold Once at h1 ⊢
  rw [List.map_append, List.nodup_append]
  exact ⟨h1, by simp, fun a ha b hb e => (mget_mem _ _).1 hg (by simp at hb; subst hb; subst e; exact ha)⟩
 ·rw [mget_put, mget_snoc _ _ _ _ hg, mget_drop1, h.get]
  by_cases e : k = j
  ·rw [if_pos e, if_pos e]
  ·rw [if_neg e, if_neg e, if_neg e]
 ·rw [len_put, List.length_append, len_drop1 h.once, h.get, h.count]
  split
  ·rfl
  ·rename_i hm
   have := len_pos_of hm
   simp; omega
theorem TRow.keys {L T : Tb} (h : TRow L T) (hT : TbOk T) : (L.map (·.1)).Perm (T.map (·.1)) := by
 rw [List.perm_ext_iff_of_nodup h.once hT.once]
 intro k
 have h1 := mget_mem L k
 have h2 := mget_mem T k
 rw [← h.get, h2] at h1
 exact Decidable.not_iff_not.1 h1.symm
end Go.Proofs.YtfagldjhibdfhaaGreatDoor
namespace Go.Proofs.YtfagldjhibdfhaaGreatDoor
open Go.RowKit
set_option linter.unusedVariables false
set_option linter.unusedSimpArgs false

def ofW (H : Hp) (t : Vl) : ByteArray := if t.ck && decide (t.k = 4) then (if t.n < (H.tabs.length : Int) then sNone else sKey) else sType
def tabOf (H : Hp) (t : Vl) : Tb := H.tabs.getD t.n.toNat []
def getW (H : Hp) (t k : Vl) : ByteArray := if k.ck then (if ofW H t = sNone then (if k.k = 2 ∨ k.k = 3 then sNone else sKey) else ofW H t) else sType
def getV (H : Hp) (t k : Vl) : Vl := if getW H t k = sNone then tget (tabOf H t) k else Vl.zero
def freshB (H : Hp) (t k v : Vl) : Bool := decide ((getV H t k).k = 0) && !decide (v.k = 0)
def setW (H : Hp) (t k v : Vl) : ByteArray :=
 if v.ck then (if getW H t k = sNone then (if freshB H t k v then (if 65536 ≤ (tabOf H t).length then sLong else if 1 ≤ H.cells - H.spent then sNone else sMemory) else sNone) else getW H t k) else sType
def setH (H : Hp) (t k v : Vl) : Hp := if setW H t k v = sNone then ⟨H.tabs.set t.n.toNat (tput (tabOf H t) k v), H.cells, if freshB H t k v then H.spent + 1 else H.spent⟩ else H
def lenW (H : Hp) (v : Vl) : ByteArray := if v.ck && decide (v.k = 3) then sNone else ofW H v
def lenV (H : Hp) (v : Vl) : Int := if v.ck && decide (v.k = 3) then v.s.size else if ofW H v = sNone then tlen (tabOf H v) else 0
def tabW (H : Hp) : ByteArray := if 1 ≤ H.cells - H.spent then sNone else sMemory
def tabV (H : Hp) : Vl := if 1 ≤ H.cells - H.spent then ⟨4, H.tabs.length, sNone⟩ else Vl.zero
def tabH (H : Hp) : Hp := if 1 ≤ H.cells - H.spent then ⟨H.tabs ++ [[]], H.cells, H.spent + 1⟩ else H
def keysV (H : Hp) (t : Vl) : List Vl := if ofW H t = sNone then keysL (tabOf H t) else []
def mkH (H : Hp) (s : ByteArray) : Hp := { H with spent := mkC H.cells H.spent s }
def newH (c : Int) : Hp := ⟨[], max c 0, 0⟩
theorem sNone_ne : ¬ sKey = sNone ∧ ¬ sType = sNone ∧ ¬ sLong = sNone ∧ ¬ sMemory = sNone := by decide
theorem ofW_none {H : Hp} {t : Vl} (h : ofW H t = sNone) : t.ck = true ∧ t.k = 4 ∧ 0 ≤ t.n ∧ t.n < (H.tabs.length : Int) ∧ t.n.toNat < H.tabs.length := by
 unfold ofW at h
 split at h
 ·rename_i h1
  split at h
  ·rename_i h2
   simp only [Bool.and_eq_true, decide_eq_true_eq] at h1
   obtain ⟨hc, h4⟩ := h1
   have h0 : 0 ≤ t.n := by
    have := hc
    unfold Vl.ck checkB at this
    simp [h4] at this
    exact this.2
   exact ⟨hc, h4, h0, h2, by omega⟩
  ·exact absurd h sNone_ne.1
 ·exact absurd h sNone_ne.2.1
theorem tabOf_ok {H : Hp} (h : HOk H) {t : Vl} (ht : t.n.toNat < H.tabs.length) : TbOk (tabOf H t) := by
 unfold tabOf
 rw [List.getD_eq_getElem?_getD, List.getElem?_eq_getElem ht, Option.getD_some]
 exact h.tab _ (List.getElem_mem ht)
theorem tabOf_get {H : Hp} {t : Vl} (ht : t.n.toNat < H.tabs.length) : H.tabs[t.n.toNat]? = some (tabOf H t) := by
 unfold tabOf
 rw [List.getD_eq_getElem?_getD, List.getElem?_eq_getElem ht, Option.getD_some]
theorem getW_none {H : Hp} {t k : Vl} (h : getW H t k = sNone) : k.ck = true ∧ ofW H t = sNone ∧ (k.k = 2 ∨ k.k = 3) := by
 unfold getW at h
 split at h
 ·rename_i h1
  split at h
  ·rename_i h2
   split at h
   ·rename_i h3; exact ⟨h1, h2, h3⟩
   ·exact absurd h sNone_ne.1
  ·rename_i h2; exact absurd h h2
 ·exact absurd h sNone_ne.2.1
theorem getV_ok {H : Hp} (h : HOk H) (t k : Vl) : in64 (getV H t k).n ∧ (getV H t k).ck = true ∧ (getV H t k).s.size ≤ 1048576 := by
 unfold getV
 split
 ·rename_i hw
  obtain ⟨_, h2, _⟩ := getW_none hw
  exact (tabOf_ok h (ofW_none h2).2.2.2.2).got k
 ·exact ⟨⟨by decide, by decide⟩, ck_zero, by decide⟩
theorem ck_kind {v : Vl} (h : v.ck = true) : 0 ≤ v.k ∧ v.k ≤ 4 := by
 unfold Vl.ck checkB at h
 by_cases h0 : v.k = 0
 ·omega
 ·by_cases h1 : v.k = 1
  ·omega
  ·by_cases h2 : v.k = 2
   ·omega
   ·by_cases h3 : v.k = 3
    ·omega
    ·by_cases h4 : v.k = 4
     ·omega
     ·simp [h0, h1, h2, h3, h4] at h
theorem setW_none {H : Hp} {t k v : Vl} (h : setW H t k v = sNone) : v.ck = true ∧ getW H t k = sNone ∧ (freshB H t k v = true → (tabOf H t).length < 65536 ∧ 1 ≤ H.cells - H.spent) := by
 unfold setW at h
 split at h
 ·rename_i h1
  split at h
  ·rename_i h2
   refine ⟨h1, h2, fun hf => ?_⟩
   rw [if_pos hf] at h
   split at h
   ·exact absurd h sNone_ne.2.2.1
   ·split at h
    ·rename_i h3 h4; exact ⟨by omega, h4⟩
    ·exact absurd h sNone_ne.2.2.2
  ·rename_i h2; exact absurd h h2
 ·exact absurd h sNone_ne.2.1
theorem kOk_of {H : Hp} {t k : Vl} (h : getW H t k = sNone) (hk : in64 k.n) : KOk k := ⟨(getW_none h).1, (getW_none h).2.2, hk⟩
theorem setH_ok {H : Hp} (h : HOk H) {t k v : Vl} (hk : in64 k.n) (hv : in64 v.n) : HOk (setH H t k v) := by
 unfold setH
 split
 ·rename_i hw
  obtain ⟨h1, h2, h3⟩ := setW_none hw
  obtain ⟨g1, g2, g3⟩ := getW_none h2
  have ht := (ofW_none g2).2.2.2.2
  refine ⟨fun T hT => ?_, ?_, ?_, h.most⟩
  ·rcases List.mem_or_eq_of_mem_set hT with hT | rfl
   ·exact h.tab T hT
   ·refine (tabOf_ok h ht).put (kOk_of h2 hk) h1 hv fun hz hn => (h3 ?_).1
    unfold freshB getV
    rw [if_pos h2]
    simp [hz, hn]
  ·have := h.low
   show 0 ≤ if freshB H t k v = true then _ else _
   split <;> omega
  ·have := h.le
   show (if freshB H t k v = true then _ else _) ≤ _
   split
   ·rename_i hf
    have h6 := (h3 hf).2
    show H.spent + 1 ≤ H.cells
    omega
   ·exact this
 ·exact h
theorem setH_len {H : Hp} (t k v : Vl) : (setH H t k v).tabs.length = H.tabs.length := by
 unfold setH
 split
 ·exact List.length_set
 ·rfl
theorem mkC_le {c sp : Int} {s : ByteArray} (h : sp ≤ c) (h0 : 0 ≤ sp) : 0 ≤ mkC c sp s ∧ mkC c sp s ≤ c := by
 unfold mkC tk mkN
 split
 ·omega
 ·split <;> omega
theorem tabOf_set {H : Hp} {t : Vl} (ht : t.n.toNat < H.tabs.length) (T : Tb) (c s : Int) : tabOf ⟨H.tabs.set t.n.toNat T, c, s⟩ t = T := by
 unfold tabOf
 rw [List.getD_eq_getElem?_getD]
 simp [ht]
end Go.Proofs.YtfagldjhibdfhaaGreatDoor
namespace Go.Proofs.YtfagldjhibdfhaaGreatDoor
open Go.RowKit
set_option linter.unusedVariables false
set_option linter.unusedSimpArgs false

section
variable {P : Program} {ops : Array Oper} {rest : List Oper} {o : Oper} {a : Act} {w : World} {Q : Exit → Act → World → Prop}
end
theorem wp_scope_fwd {P : Program} {a : Act} {w : World} {Q : Exit → Act → World → Prop} {c rest : Code} (l : Nat) (hf : findLabel c l = some rest)
  (first : c.wp P (Exit.jump l (fun a' w' => rest.wp P (Exit.noGoto Q) a' w') Q) a w) : (Code.scope c).wp P Q a w :=
 wp_scope_jumps l _ (fun _ _ => 0) hf first fun a' w' h => wp_mono h fun e a2 w2 hq => by
  cases e <;> first | exact hq | exact hq.elim
end Go.Proofs.YtfagldjhibdfhaaGreatDoor
