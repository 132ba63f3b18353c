/- Small lemmas that all texts of this seat share: equations between endings, the frame of calls that only make new blocks, draws. Map literals whose keys are known, as they are made, entry by entry; what is looked up in them. A drawn region whose callees make memory: one walk, in the text's order. Rows of the call's own: bytes and texts that are appended to; bytes as a text. A range over a function that writes a variable of its own (block b) between its rounds; otherwise as Rng: whose rounds are asked at what the iterator hands out alone, and where an element may forbid that a round goes on. -/
import Derived.WalkKit
import Derived.BigQuiet
import Derived.WalkSpells
import Derived.WalkLawsBesides
import Derived.Lib.Hide
import Derived.Deep.QuietTactic
import Derived.Sort.Grow
import Derived.Deep.RegionWith
import Derived.ChangeMaps4
import Derived.MapKept
import Derived.Test.YtfjipoijbmmjcaaGreatDoorProg
import Derived.Laws.OwnMore
import Derived.OwnWalk
import Derived.Deep.LoopGhost
import Derived.Lib.AppendStr
import Derived.Lib.Strings
import Derived.StillTailTactics
import Derived.Lib.Walk
import Derived.Deep.RegionHeld3
import Derived.Deep.DrawnRows
import Derived.RangeFuncWrites
import Derived.RangeFuncBound
import Derived.RangeFuncCalls
import Derived.RangeFuncLeaves
import Derived.RangeFuncBox
import Derived.OwnWalkIn
namespace Go.Proofs.YtfjipoijbmmjcaaGreatDoor
open Go.RowKit
set_option linter.unusedVariables false

theorem bool_eq {a b : Bool} (h : a = b) : Value.bool a = Value.bool b := by rw [h]
theorem ret_of {x x' : Value} (h : x = x') : Ending.returned x = Ending.returned x' := by rw [h]
def Ext (w w' : World) : Prop := Below w.heap.size w w'
theorem Ext.refl (w : World) : Ext w w := Below.refl _ _
theorem Ext.trans {a b c : World} (h : Ext a b) (k : Ext b c) : Ext a c :=
 Below.trans h (Below.mono k h.size)
theorem Ext.drew {a w : World} (h : Ext a w) : Ext a w.drew := Below.drew h
theorem Ext.drewN {a w : World} (h : Ext a w) (n : Nat) : Ext a (w.drewN n) := ⟨h.os, h.tape, h.output, h.size, h.block⟩
theorem Ext.alloc {a w : World} (h : Ext a w) (o : Obj) : Ext a (w.alloc o) := Below.alloc h h.size o
theorem Ext.setCell {a w : World} (h : Ext a w) {p : Addr} (hp : a.heap.size ≤ p.block) (u : Value) : Ext a (w.setCell p u) := Below.setCell h hp u
theorem Ext.grow {a w : World} (h : Ext a w) (k : Nat) (os : Array Obj) : Ext a (Go.Sort.grow (w.drewN k) os) :=
 Ext.trans h ⟨rfl, rfl, rfl, by simp [Go.Sort.grow, World.drewN], fun k hk => by simp [Go.Sort.grow, World.drewN, Array.getElem?_append, hk]⟩
theorem Ext.cells {w w' : World} (h : Ext w w') : (∀ b o, b < w.heap.size → w'.cell? ⟨b, o, none⟩ = w.cell? ⟨b, o, none⟩) ∧ (∀ b o, b < w.heap.size → w'.frozen? ⟨b, o, none⟩ = w.frozen? ⟨b, o, none⟩) :=
 ⟨fun b o hb => Below.cell h (p := ⟨b, o, none⟩) hb, fun b o hb => Below.frozen h (p := ⟨b, o, none⟩) hb⟩
theorem Ext.le {w w' : World} (h : Ext w w') : w.heap.size ≤ w'.heap.size := h.size
def Only (g : Nat) (w w' : World) : Prop := w.grownBy w' (some g)
theorem Only.refl (g : Nat) (w : World) : Only g w w := World.grownBy.refl w _
theorem Only.of_ext {g : Nat} {w w' : World} (h : Ext w w') : Only g w w' := ⟨h.os, h.tape, h.output, h.size, fun k hk _ => h.block k hk⟩
theorem Only.trans {g : Nat} {a b c : World} (h : Only g a b) (k : Only g b c) : Only g a c :=
 ⟨k.os.trans h.os, k.tape.trans h.tape, k.output.trans h.output, Nat.le_trans h.size k.size, fun i hi hn => (k.block i (Nat.lt_of_lt_of_le hi h.size) hn).trans (h.block i hi hn)⟩
theorem Only.ext {g : Nat} {a b c : World} (h : Only g a b) (k : Ext b c) : Only g a c := h.trans (.of_ext k)
theorem Only.drew {g : Nat} {a w : World} (h : Only g a w) : Only g a w.drew := h.ext (Ext.refl w).drew
theorem Only.alloc {g : Nat} {a w : World} (h : Only g a w) (o : Obj) : Only g a (w.alloc o) := h.ext ((Ext.refl w).alloc o)
theorem Only.setCell {g : Nat} {a w : World} (h : Only g a w) {p : Addr} (hp : p.block = g ∨ a.heap.size ≤ p.block) (u : Value) : Only g a (w.setCell p u) :=
 ⟨h.os, h.tape, h.output, by simpa [World.setCell] using h.size, fun i hi hne => (Below.heap_setCell w p u i (by
  rintro rfl
  rcases hp with hp | hp
  ·exact hne (by rw [hp])
  ·omega)).trans (h.block i hi hne)⟩
theorem Only.cells {g : Nat} {w w' : World} (h : Only g w w') : (∀ b o, b < w.heap.size → ¬ b = g → w'.cell? ⟨b, o, none⟩ = w.cell? ⟨b, o, none⟩) ∧ (∀ b o, b < w.heap.size → ¬ b = g → w'.frozen? ⟨b, o, none⟩ = w.frozen? ⟨b, o, none⟩) :=
 ⟨fun b _ hb hn => World.cell?_of_block (h.block b hb (fun e => hn (Option.some.inj e))), fun b _ hb hn => World.frozen?_of_block (h.block b hb (fun e => hn (Option.some.inj e)))⟩
theorem Only.le {g : Nat} {w w' : World} (h : Only g w w') : w.heap.size ≤ w'.heap.size := h.size
theorem size_alloc (w : World) (o : Obj) : (w.alloc o).heap.size = w.heap.size + 1 := by show (w.heap.push o).size = _; simp
def Blk (w : World) (g : Nat) (t : TypeId) (cs : Array Value) : Prop := w.heap[g]? = some (.cells cs t (0, 0))
theorem Blk.lt {w : World} {g : Nat} {t : TypeId} {cs : Array Value} (h : Blk w g t cs) : g < w.heap.size := by
 rcases Nat.lt_or_ge g w.heap.size with hlt | hge
 ·exact hlt
 ·unfold Blk at h; rw [Array.getElem?_eq_none hge] at h; cases h
theorem Blk.cell {w : World} {g : Nat} {t : TypeId} {cs : Array Value} (h : Blk w g t cs) (i : Nat) : w.cell? ⟨g, i, none⟩ = cs[i]? := cell_of_row w g i cs t (0, 0) h
theorem Blk.frozen {w : World} {g : Nat} {t : TypeId} {cs : Array Value} (h : Blk w g t cs) (i : Nat) : w.frozen? ⟨g, i, none⟩ = false := by
 unfold Blk at h
 simp [World.frozen?, h]
theorem Blk.new (w : World) (t : TypeId) (cs : Array Value) : Blk (w.alloc (.cells cs t)) w.heap.size t cs := heap_alloc_new w _
theorem Blk.drew {w : World} {g : Nat} {t : TypeId} {cs : Array Value} (h : Blk w g t cs) : Blk w.drew g t cs := h
theorem Blk.drewN {w : World} {g : Nat} {t : TypeId} {cs : Array Value} (h : Blk w g t cs) (n : Nat) : Blk (w.drewN n) g t cs := h
theorem Blk.alloc {w : World} {g : Nat} {t : TypeId} {cs : Array Value} (h : Blk w g t cs) (o : Obj) : Blk (w.alloc o) g t cs := (Below.heap_alloc w o g h.lt).trans h
theorem Blk.set_ {w : World} {g : Nat} {t : TypeId} {cs : Array Value} (h : Blk w g t cs) (i : Nat) (u : Value) : Blk (w.setCell ⟨g, i, none⟩ u) g t (cs.setIfInBounds i u) := by
 unfold Blk at h ⊢
 simp [World.setCell, Array.getElem?_modify, h]
theorem Blk.far {w : World} {g : Nat} {t : TypeId} {cs : Array Value} (h : Blk w g t cs) {p : Addr} (hp : g ≠ p.block) (u : Value) : Blk (w.setCell p u) g t cs := (Below.heap_setCell w p u g hp).trans h
theorem Blk.ext {w w' : World} {g : Nat} {t : TypeId} {cs : Array Value} (h : Blk w g t cs) (hb : Ext w w') : Blk w' g t cs := (hb.block g h.lt).trans h
theorem Blk.only {w w' : World} {g g' : Nat} {t : TypeId} {cs : Array Value} (h : Blk w g t cs) (hb : Only g' w w') (hg : g ≠ g') : Blk w' g t cs := (hb.block g h.lt (fun e => hg (Option.some.inj e))).trans h
theorem wp_region_ext {P : Program} {id : Nat} {Q : Exit → Act → World → Prop} {a : Act} {w : World} {l : List Oper} (hm : P.follows .mixedOrders = true) (hB : Region.lexB .any l.toArray = true)
  (h : wpQuiet P l.toArray (fun w' => Ext w w') (fun a' => ∀ w', Ext w w' → Q .normal a' w') l a) : (Code.region id l.toArray true).wp P Q a w :=
 wp_region_quiet (C := fun w' => Ext w w') hm hB ((Ext.refl w).drew) (by simpa using h)
theorem Calls.ext_of {P : Program} {f : FuncId} {args : Array Value} {w W : World} {v : Value} (hW : Ext w W)
  (h : Calls P f args W fun e w' => e = .returned v ∧ Ext W w') : Calls P f args W fun e w'' => e = .returned v ∧ Ext w w'' :=
 h.mono fun _ _ ⟨he, hb⟩ => ⟨he, hW.trans hb⟩
end Go.Proofs.YtfjipoijbmmjcaaGreatDoor
namespace Go.Proofs.YtfjipoijbmmjcaaGreatDoor
open Go.RowKit
set_option linter.unusedVariables false

def ents : List (Value × Value) → Nat → List MapEntry
 | [], _ => []
 | x :: l, i => ⟨x.1, x.2, i⟩ :: ents l (i + 1)
theorem ents_append (x : Value × Value) : ∀ (l : List (Value × Value)) (i : Nat), ents (l ++ [x]) i = ents l i ++ [⟨x.1, x.2, i + l.length⟩]
 | [], i => rfl
 | y :: l, i => by simp only [List.cons_append, ents, ents_append x l (i + 1), List.length_cons]; congr 3; simp [Nat.add_comm, Nat.add_left_comm]
def noKey (kind : TypeDesc) (k : Value) (l : List (Value × Value)) : Bool := l.all fun x => Instr.sameNow kind k x.1 == some false
def under (kind : TypeDesc) (k : Value) : List (Value × Value) → Option Value
 | [] => none
 | x :: l => if Instr.sameNow kind k x.1 = some true then some x.2 else if Instr.sameNow kind k x.1 = some false then under kind k l else none
theorem findNow_none {kind : TypeDesc} {k : Value} : ∀ {l : List (Value × Value)} (h : noKey kind k l = true) (i j : Nat), Instr.findNow kind k (ents l i) j = some none
 | [], _, _, _ => rfl
 | x :: l, h, i, j => by
  simp only [noKey, List.all_cons, Bool.and_eq_true, beq_iff_eq] at h
  simp only [ents, Instr.findNow, h.1]
  exact findNow_none (l := l) h.2 (i + 1) (j + 1)
theorem findNow_some {kind : TypeDesc} {k v : Value} : ∀ {l : List (Value × Value)} (h : under kind k l = some v) (i j : Nat), ∃ n, Instr.findNow kind k (ents l i) j = some (some (n, v))
 | x :: l, h, i, j => by
  unfold under at h
  split at h
  ·rename_i h1
   obtain rfl := Option.some.inj h
   exact ⟨j, by simp only [ents, Instr.findNow, h1]⟩
  ·split at h
   ·rename_i h2
    obtain ⟨n, hn⟩ := findNow_some (l := l) h (i + 1) (j + 1)
    exact ⟨n, by simp only [ents, Instr.findNow, h2]; exact hn⟩
   ·cases h
theorem alloc_set (w : World) (o o' : Obj) : ({ w.alloc o with heap := (w.alloc o).heap.setIfInBounds w.heap.size o' } : World) = w.alloc o' := by
 have e : (w.heap.push o).setIfInBounds w.heap.size o' = w.heap.push o' := by
  apply Array.ext_getElem?
  intro i
  simp only [Array.getElem?_setIfInBounds, Array.getElem?_push, Array.size_push]
  split <;> split <;> simp_all <;> omega
 show ({ w with heap := (w.heap.push o).setIfInBounds w.heap.size o' } : World) = { w with heap := w.heap.push o' }
 rw [e]
section
variable {P : Program} {T K E : TypeId} {kind : TypeDesc}
def plainKind : TypeDesc → Bool
 | .int _ | .string => true
 | _ => false
theorem run_checkKey_plain (hK : P.underlying K = some kind) (hk : plainKind kind = true) (b : Bool) (k : Value) (w : World) : (Instr.checkKey b 10000 K k).run P w = .ok () w := by
 unfold Instr.checkKey
 simp only [Sem.run_bind, run_underlying hK, Result.andThen_ok]
 cases kind <;> first | (cases k <;> rfl; done) | (simp [plainKind] at hk; done)
theorem run_findKey_plain (hK : P.underlying K = some kind) {k : Value} {es : List MapEntry} {r : Option (Nat × Value)} (h : Instr.findNow kind k es 0 = some r) (w : World) : (Instr.findKey K k es).run P w = .ok r w := by
 simp [Instr.findKey, run_underlying hK, h]
theorem run_insert_lit (hT : P.underlying T = some (.map K E)) (hK : P.underlying K = some kind) (hk : plainKind kind = true) (l : List (Value × Value)) (n : Nat) (k v : Value) (hn : n = l.length) (h : noKey kind k l = true) (w : World) :
  (Instr.mapUpdate T (.map (some w.heap.size)) k v).run P (w.alloc (.map (ents l 0).toArray n)) = .ok () (w.alloc (.map (ents (l ++ [(k, v)]) 0).toArray (n + 1))) := by
 have hb : (w.alloc (.map (ents l 0).toArray n)).heap[w.heap.size]? = some (.map (ents l 0).toArray n) := heap_alloc_new w _
 subst hn
 simp only [Instr.mapUpdate, Sem.run_bind, run_underlying hT, Result.andThen_ok, MapKept.run_getObj_map hb, run_checkKey_plain hK hk, run_findKey_plain hK (findNow_none h 0 0)]
 simp only [MapKept.run_setObj_map _ hb, List.push_toArray]
 rw [ents_append]
 simp only [Nat.zero_add]
 exact congrArg (Result.ok ()) (alloc_set w _ _)
theorem run_lookup_lit (hT : P.underlying T = some (.map K E)) (hK : P.underlying K = some kind) (hk : plainKind kind = true) (l : List (Value × Value)) (n r : Nat) (k v : Value) {w : World} (hb : w.heap[r]? = some (.map (ents l 0).toArray n)) (h : under kind k l = some v) (ok : Bool) :
  (Instr.lookup T (.map (some r)) k ok).run P w = .ok (if ok then .tuple #[v, .bool true] else v) w := by
 obtain ⟨m, hm⟩ := findNow_some h 0 0
 simp only [Instr.lookup, Sem.run_bind, run_underlying hT, Result.andThen_ok, MapKept.run_getObj_map hb, Sem.run_pure, run_checkKey_plain hK hk, run_findKey_plain hK hm]
theorem run_lookup_none (hT : P.underlying T = some (.map K E)) (hK : P.underlying K = some kind) (hk : plainKind kind = true) (l : List (Value × Value)) (n r : Nat) (k z : Value) {w : World} (hz : (zeroValue E).run P w = .ok z w) (hb : w.heap[r]? = some (.map (ents l 0).toArray n)) (h : noKey kind k l = true) (ok : Bool) :
  (Instr.lookup T (.map (some r)) k ok).run P w = .ok (if ok then .tuple #[z, .bool false] else z) w := by
 simp only [Instr.lookup, Sem.run_bind, run_underlying hT, Result.andThen_ok, MapKept.run_getObj_map hb, Sem.run_pure, run_checkKey_plain hK hk, run_findKey_plain hK (findNow_none h 0 0), hz]
end
end Go.Proofs.YtfjipoijbmmjcaaGreatDoor
namespace Go.Proofs.YtfjipoijbmmjcaaGreatDoor
open Go.RowKit

end Go.Proofs.YtfjipoijbmmjcaaGreatDoor
namespace Go.Proofs.YtfjipoijbmmjcaaGreatDoor
open Go.RowKit
set_option linter.unusedVariables false
set_option linter.unusedSimpArgs false

theorem own_of_heap {w w' : World} {base : Nat} {e : TypeId} {s : Nat} {v : Value} {n : Nat} {xs : List Value} (h : w.ownsRow base e s v n xs) (hh : ∀ g, base ≤ g → g < w.heap.size → w'.heap[g]? = w.heap[g]?) : w'.ownsRow base e s v n xs := by
 obtain ⟨hl, h⟩ := h
 refine ⟨hl, ?_⟩
 rcases h with h | ⟨g, cap, cur, e1, hb, hc, h2⟩
 ·exact .inl h
 ·have hg : g < w.heap.size := by
   rcases Nat.lt_or_ge g w.heap.size with h | h
   ·exact h
   ·rw [Array.getElem?_eq_none h] at hc; cases hc
  exact .inr ⟨g, cap, cur, e1, hb, (hh g hb hg).trans hc, h2⟩
theorem own_ext {w w' : World} {base : Nat} {e : TypeId} {s : Nat} {v : Value} {n : Nat} {xs : List Value} (h : w.ownsRow base e s v n xs) (ho : Ext w w') : w'.ownsRow base e s v n xs :=
 own_of_heap h fun k hk hl => ho.block k hl
theorem own_block {w : World} {base : Nat} {e : TypeId} {s : Nat} {v : Value} {n : Nat} {xs : List Value} (h : w.ownsRow base e s v n xs) : ∀ x, v.ownBlock = some x → base ≤ x := by
 intro x hx
 obtain ⟨_, ⟨rfl, _⟩ | ⟨g, cap, cur, rfl, hb, _⟩⟩ := h
 ·cases hx
 ·cases hx; exact hb
theorem Ext.grown {a b c : World} {row : Option Nat} (h : Ext a b) (hg : b.grownBy c row) (hr : ∀ x, row = some x → a.heap.size ≤ x) : Ext a c :=
 ⟨hg.os.trans h.os, hg.tape.trans h.tape, hg.output.trans h.output, Nat.le_trans h.size hg.size, fun k hk => (hg.block k (Nat.lt_of_lt_of_le hk h.size) (fun e => by have := hr k e.symm; omega)).trans (h.block k hk)⟩
theorem Blk.grown {w w' : World} {g : Nat} {t : TypeId} {cs : Array Value} {row : Option Nat} (h : Blk w g t cs) (hb : w.grownBy w' row) (hr : ∀ x, row = some x → ¬ g = x) : Blk w' g t cs :=
 (hb.block g h.lt (fun e => hr g e.symm rfl)).trans h
theorem wpList_append_run {P : Program} {w : World} {ops : Array Oper} {rest : List Oper} {o : Oper} {a : Act} {Q : Exit → Act → World → Prop} (hgd : o.guard = none) (s x : Operand) (t : TypeId)
  (ho : o.op = .call { callee := .builtin .append, args := #[s, x], argTypes := #[t, t] }) (v x' v' : Value) (w' : World) (hs : a.eval s = v) (hx : a.eval x = x')
  (hrun : (Builtin.append_ #[t, t] o.type #[v, x']).run P w = .ok v' w') (h : wpList P ops Q rest (a.put o.dst v') w') : wpList P ops Q (o :: rest) a w := by
 refine wpList_plain hgd fun K hK => ?_
 unfold Oper.wp execOp
 simp only [ho, resolve, invoke, builtin, Sem.run_bind, Sem.run_pure, Result.andThen_ok, List.map_toArray, List.map_cons, List.map_nil, hs, hx, hrun]
 exact hK _ _ h
theorem infoU8 : (Tryz.prog.info? 5).map (fun i => (i.zero, i.size, i.bytes)) = some (some (.int .u8 0), 1, 1) := by kernel_rfl
theorem byte_one (l : List UInt8) : ∀ v ∈ Lib.byteCells l, v.oneCell' = true := by
 intro v hv
 simp only [Lib.byteCells, List.mem_map] at hv
 obtain ⟨b, _, rfl⟩ := hv
 rfl
def OwnB (w : World) (B : Nat) (v : Value) (l : List UInt8) : Prop := w.ownsRow B 5 1 v l.length (Lib.byteCells l)
theorem OwnB.nil (w : World) (B : Nat) : OwnB w B (.slice none 0 0) [] := World.ownsRow_nil _ _ _ _
theorem OwnB.ext {w w' : World} {B : Nat} {v : Value} {l : List UInt8} (h : OwnB w B v l) (he : Ext w w') : OwnB w' B v l := own_ext h he
theorem OwnB.slice {w : World} {B : Nat} {v : Value} {l : List UInt8} (h : OwnB w B v l) : ∃ q c, v = .slice q l.length c := by
 rcases h.2 with ⟨rfl, h0⟩ | ⟨g, cap, cur, rfl, _⟩
 ·exact ⟨none, 0, by rw [h0]⟩
 ·exact ⟨_, _, rfl⟩
theorem nums_str (l : List UInt8) : strOfNums (l.map fun c => (c.toNat : Int)) = ⟨l.toArray⟩ := by
 unfold strOfNums
 congr 2
 rw [List.map_map]
 conv => rhs; rw [← List.map_id l]
 exact List.map_congr_left fun c _ => by simp
theorem OwnB.conv {w : World} {B : Nat} {v : Value} {l : List UInt8} (h : OwnB w B v l) : (convert 46 9 v).run Tryz.prog w = .ok (.string ⟨l.toArray⟩) w := by
 rcases h.2 with ⟨rfl, h0⟩ | ⟨g, cap, cur, rfl, hb, hh, _⟩
 ·have hl := List.eq_nil_of_length_eq_zero h0
  subst hl
  rw [run_convert_bytes_string w 46 9 5 _ 0 0 Tryz.underlying46 Tryz.underlying5 Tryz.underlying9]
  rfl
 ·have e := run_convert_bytes_arg (P := Tryz.prog) w 46 5 Tryz.underlying46 Tryz.underlying5 g 0 l.length cap (l.map fun x => (x.toNat : Int)) (by simp) (fun k hk => by
   have h1 := World.ownsRow.cells h (g := g) rfl k (.int .u8 (l[k].toNat : Int)) (by simp [Lib.byteCells, List.getElem?_map, List.getElem?_eq_getElem hk])
   have hadd : (⟨g, 0, none⟩ : Addr).add k = ⟨g, 0 + k, none⟩ := by unfold Addr.add; split <;> simp_all
   rw [hadd] at h1
   rw [List.getD_eq_getElem?_getD, List.getElem?_map, List.getElem?_eq_getElem hk]
   exact h1) 9 Tryz.underlying9
  rw [nums_str] at e
  exact e
structure AppB (w : World) (B : Nat) (v : Value) (l : List UInt8) (w' : World) (v' : Value) : Prop where
 own : OwnB w' B v' l
 grow : w.grownBy w' v.ownBlock
 row : ∀ x, v.ownBlock = some x → B ≤ x
theorem AppB.ext {a w w' : World} {B : Nat} {v v' : Value} {l : List UInt8} (h : AppB w B v l w' v') (he : Ext a w) (hB : a.heap.size ≤ B) : Ext a w' :=
 he.grown h.grow fun x hx => Nat.le_trans hB (h.row x hx)
end Go.Proofs.YtfjipoijbmmjcaaGreatDoor
namespace Go.Proofs.YtfjipoijbmmjcaaGreatDoor
open Go.RowKit
set_option linter.unusedVariables false
variable {F : Fence} {n : Nat} {P : Program}

def SeqB {α : Type} (F : Fence) (n : Nat) (P : Program) (b : Nat) (g : Nat) (lb : Array Value) (encs : α → Array Value) (Kp : World → World → Prop) (R : List α → α → Prop) (G : α → Prop) (S Sp : List α → Prop) (w : World) : Prop :=
 ∀ (l : Nat) (J Jx : List α → World → Prop) (W : World), Below w.heap.size w W → AbidesFrom W.heap.size J → AbidesFrom W.heap.size Jx →
  (∀ pre x W1, J pre W1 → R pre x → YieldAt F (n - 1) P l (encs x) W1 fun e W' =>
   (e = .returned (.bool true) ∧ G x ∧ J (pre ++ [x]) W' ∧ Kp W1 W') ∨ (e = .returned (.bool false) ∧ Jx (pre ++ [x]) W')) →
  (∀ pre W1 v, J pre W1 → J pre (W1.setCell ⟨b, 0, none⟩ v)) →
  J [] W →
  CallsIn F n P g (#[.func (.yield l) #[] #[]] ++ lb) W fun e W' => (∃ v, e = .returned v) ∧ ((∃ xs, S xs ∧ J xs W') ∨ (∃ pre, Sp pre ∧ Jx pre W'))
def ownPostB {α : Type} (B : Nat) (Kp : World → World → Prop) (G : Prop) (I : List α → World → Prop) (Ix : Code → List α → World → Prop) (xs : List α) (W : World) : Exit → Act → World → Prop
 | .normal, _, W' => KeepsFrom B W W' ∧ Kp W W' ∧ G ∧ I xs W'
 | .ret, _, W' => KeepsFrom B W W' ∧ Ix .ret xs W'
 | .exit id, _, W' => KeepsFrom B W W' ∧ Ix (.exit id) xs W'
 | .goto t, _, W' => KeepsFrom B W W' ∧ Ix (.goto t) xs W'
 | .panic _, _, _ => False
 | .outgrown, _, _ => False
theorem wpIn_rangeFunc_B {α : Type} {g : Operand} {ps : Array Tmp} {assign body : Code} {Q : Exit → Act → World → Prop} {a : Act} {w : World}
  (hro : F.round = none) (h1 : 1 ≤ n) {gf : Nat} {lb : Array Value} (hg : a.eval g = .func (.func gf) #[] lb) (hFg : F.fn gf) (eg : ∀ args w, (callFunc gf args).run P w = .ok (.enter gf args) w)
  {encs : α → Array Value} {Kp : World → World → Prop} {R : List α → α → Prop} {G : α → Prop} {S Sp : List α → Prop} {w0 : World} {b : Nat} (hseq : SeqB F (n - 1) P b gf lb encs Kp R G S Sp w0)
  (hKt : ∀ {A B C : World}, Kp A B → Kp B C → Kp A C) (hKb : ∀ (W : World) (l : Nat) (o o' : Obj), w.heap.size ≤ l → W.heap[l]? = some o → o.isCells = false → o.isWalk = false → Kp W (W.putObj l o')) (hb0 : Below w0.heap.size w0 w) (hps : ∀ x, (encs x).size = ps.size)
  (I : List α → World → Prop) (Ix : Code → List α → World → Prop) (hI : OwnFrom w.heap.size I) (hIx : ∀ c, OwnFrom w.heap.size (Ix c)) (h0 : I [] w) (hbl : b < w.heap.size) (hIb : ∀ pre W v, I pre W → I pre (W.setCell ⟨b, 0, none⟩ v))
  (Ax : α → Act → World → Prop) (hAx : ∀ x, OwnFrom w.heap.size (Ax x))
  (hassign : ∀ (l : Nat) (pre : List α) (x : α) (W : World) (K : Act → World → Prop), I pre W → R pre x →
   (∀ a' W', KeepsFrom w.heap.size W W' → Kp W W' → I pre W' → Ax x a' W' → K a' W') →
   assign.wpIn (F.inRound l) (n - 1 - 1) P (Exit.then K (fun _ _ _ => False)) { tmps := (ps.zip (encs x)).foldl (fun t (p, v) => t.setIfInBounds p v) a.tmps, defers := [] } W)
  (hbody : ∀ (l : Nat) (pre : List α) (x : α) (a' : Act) (W : World), I pre W → R pre x → Ax x a' W → body.wpIn (F.inRound l) (n - 1 - 1) P (ownPostB w.heap.size Kp (G x) I Ix (pre ++ [x]) W) a' W)
  (hdone : ∀ (D : Nat) (xs : List α) (W : World), w.heap.size ≤ D → S xs → I xs W → W.heap[D]? = some (.deferred (some [])) → Q .normal { a with defers := { target := .collected D, args := #[] } :: a.defers } W)
  (hstop : ∀ (D : Nat) (c : Code) (pre : List α) (W : World), w.heap.size ≤ D → Sp pre → Ix c pre W → W.heap[D]? = some (.deferred (some [])) → c.wpIn F n P Q { a with defers := { target := .collected D, args := #[] } :: a.defers } W) :
  (Code.rangeFunc g ps assign body).wpIn F n P Q a w := by
 refine wpIn_rangeFunc fun fn hfn => ?_
 rw [hro]
 obtain ⟨rc, hrc⟩ : ∃ rc : LoopState → Option Code → Loop, rc = fun st pe => { state := st, pending := pe, fn, tmps := a.tmps, params := ps, assign, body, defers := w.heap.size } := ⟨_, rfl⟩
 obtain ⟨V, hV⟩ : ∃ V, (w.alloc (.deferred (some []))).alloc (.loop (rc .ready none)) = V := ⟨_, rfl⟩
 have vL : V.heap[w.heap.size + 1]? = some (.loop (rc .ready none)) := by
  rw [← hV]; have h := World.alloc_heap_new (w.alloc (.deferred (some []))) (.loop (rc .ready none)); rwa [World.size_alloc] at h
 have vD : V.heap[w.heap.size]? = some (.deferred (some [])) := by
  rw [← hV]; exact (Below.heap_alloc _ _ _ (by simp)).trans (World.alloc_heap_new w _)
 have vI : I [] V := by rw [← hV]; exact hI.alloc _ (hI.alloc _ h0)
 have vB : Below w0.heap.size w0 V := by
  rw [← hV]; exact hb0.trans ((((Below.refl _ w).alloc (Nat.le_refl _) _).alloc (by simp) _).mono hb0.size)
 have hsz : V.heap.size = w.heap.size + 1 + 1 := by rw [← hV]; simp
 refine ⟨w.heap.size + 1, [{ target := .collected w.heap.size, args := #[] }], V, { target := .fn (.func gf) lb, args := #[.func (.yield (w.heap.size + 1)) #[] #[]] }, V, gf,
  #[.func (.yield (w.heap.size + 1)) #[] #[]] ++ lb, V, ?_, ?_, ?_, ?_, fun _ => h1, ?_⟩
 ·rw [← hV, hrc]; exact run_enterLoop_outer _ _ _ _ _
 ·simp only [resolve, hg]
  simp [go_sem]
 ·intro f' hf'
  simp [Target.leads] at hf'
  subst hf'
  exact hFg
 ·simp [invoke, go_sem, eg]
 have hrow : ∀ {A : World} {row : Option Nat}, (∀ r, row = some r → V.heap.size ≤ r ∧ ∃ o : Obj, A.heap[r]? = some o ∧ o.isWalk = true) → (∀ r, row = some r → w.heap.size ≤ r ∧ ∃ o : Obj, A.heap[r]? = some o ∧ o.isCells = false) :=
  fun hr r e => by
   obtain ⟨hB, o, ho, hw⟩ := hr r e
   exact ⟨by omega, o, ho, Obj.not_cells_of_walk hw⟩
 refine (hseq (w.heap.size + 1)
  (fun pre W => I pre W ∧ W.heap[w.heap.size + 1]? = some (.loop (rc .ready none)) ∧ W.heap[w.heap.size]? = some (.deferred (some [])))
  (fun pre W => ∃ c, Ix c pre W ∧ W.heap[w.heap.size + 1]? = some (.loop (rc .done (some c))) ∧ W.heap[w.heap.size]? = some (.deferred (some [])))
  V vB ?abide ?abidex ?round ?boxed ⟨vI, vL, vD⟩).mono ?behind
 case abide =>
  exact fun s A B row hs hg' hr => ⟨hI s A B row hs.1 hg' (hrow hr), (grownBy_keeps hg' (fun r e => (hr r e).2) hs.2.1 rfl).trans hs.2.1, (grownBy_keeps hg' (fun r e => (hr r e).2) hs.2.2 rfl).trans hs.2.2⟩
 case abidex =>
  rintro s A B row ⟨c, hc, hl, hk⟩ hg' hr
  exact ⟨c, hIx c s A B row hc hg' (hrow hr), (grownBy_keeps hg' (fun r e => (hr r e).2) hl rfl).trans hl, (grownBy_keeps hg' (fun r e => (hr r e).2) hk rfl).trans hk⟩
 case boxed =>
  rintro pre W1 v ⟨hi, hl, hk⟩
  exact ⟨hIb pre W1 v hi, (heap_setCell_other W1 ⟨b, 0, none⟩ _ v (by show _ ≠ b; omega)).trans hl, (heap_setCell_other W1 ⟨b, 0, none⟩ _ v (by show _ ≠ b; omega)).trans hk⟩
 case round =>
  rintro pre x W ⟨hi, hl, hk⟩ hR
  have hy := run_yield (P := P) (args := encs x) hl (by rw [hrc]; exact hps x)
  rw [hrc] at hy
  refine ⟨fn, _, assign, body, hy, roundIn_of_wpIn hfn (hassign _ pre x W _ hi hR fun a' Wa ka kpa hia hxa => ?_)⟩
  have hla : Wa.heap[w.heap.size + 1]? = some (.loop (rc .ready none)) := ka.same _ _ (by omega) hl rfl
  have hka : Wa.heap[w.heap.size]? = some (.deferred (some [])) := ka.same _ _ (Nat.le_refl _) hk rfl
  have hlt : w.heap.size + 1 < Wa.heap.size := (Array.getElem?_eq_some_iff.1 hla).1
  refine ⟨_, run_beginRound hla (by rw [hrc]), ?_⟩
  have hl2 : (Wa.putObj (w.heap.size + 1) (.loop { rc .ready none with state := .busy })).heap[w.heap.size + 1]? = some (.loop { rc .ready none with state := .busy }) := World.putObj_heap_same hlt
  have hk2 : (Wa.putObj (w.heap.size + 1) (.loop { rc .ready none with state := .busy })).heap[w.heap.size]? = some (.deferred (some [])) := (World.putObj_heap_other (by omega)).trans hka
  have hw2 : Kp Wa (Wa.putObj (w.heap.size + 1) (.loop { rc .ready none with state := .busy })) := hKb _ _ _ _ (by omega) hla rfl rfl
  refine wpIn_mono (hbody _ pre x a' _ (hI.putObj _ hia (by omega) hla rfl) hR ((hAx x).putObj _ hxa (by omega) hla rfl)) ?_
  have fin : ∀ (jump : Option Code) (W3 : World), KeepsFrom w.heap.size (Wa.putObj (w.heap.size + 1) (.loop { rc .ready none with state := .busy })) W3 →
    (Instr.endRound (w.heap.size + 1) jump).run P W3 = .ok (.bool jump.isNone) (W3.putObj (w.heap.size + 1) (.loop (rc (if jump.isNone then .ready else .done) jump))) ∧
    W3.heap[w.heap.size + 1]? = some (.loop { rc .ready none with state := .busy }) ∧
    (W3.putObj (w.heap.size + 1) (.loop (rc (if jump.isNone then .ready else .done) jump))).heap[w.heap.size + 1]? = some (.loop (rc (if jump.isNone then .ready else .done) jump)) ∧
    (W3.putObj (w.heap.size + 1) (.loop (rc (if jump.isNone then .ready else .done) jump))).heap[w.heap.size]? = some (.deferred (some [])) := fun jump W3 hk3 => by
   have hl3 := hk3.same _ _ (by omega) hl2 rfl
   have h := run_endRound (P := P) jump hl3
   rw [hrc] at h ⊢
   exact ⟨h, by rw [hrc] at hl3; exact hl3, World.putObj_heap_same (Array.getElem?_eq_some_iff.1 hl3).1, (World.putObj_heap_other (by omega)).trans (hk3.same _ _ (Nat.le_refl _) hk2 rfl)⟩
  rintro e a3 W3 hp
  cases e with
  | normal =>
   obtain ⟨hk3, hkp3, hG, hi3⟩ := hp
   obtain ⟨hr, hl3, hl4, hk4⟩ := fin none W3 hk3
   exact ⟨_, _, hr, .inl ⟨rfl, hG, ⟨hI.putObj _ hi3 (by omega) hl3 rfl, hl4, hk4⟩, hKt (hKt (hKt kpa hw2) hkp3) (hKb _ _ _ _ (by omega) hl3 rfl rfl)⟩⟩
  | ret =>
   obtain ⟨hk3, hi3⟩ := hp
   obtain ⟨hr, hl3, hl4, hk4⟩ := fin (some .ret) W3 hk3
   exact ⟨_, _, hr, .inr ⟨rfl, .ret, (hIx _).putObj _ hi3 (by omega) hl3 rfl, hl4, hk4⟩⟩
  | exit id =>
   obtain ⟨hk3, hi3⟩ := hp
   obtain ⟨hr, hl3, hl4, hk4⟩ := fin (some (.exit id)) W3 hk3
   exact ⟨_, _, hr, .inr ⟨rfl, .exit id, (hIx _).putObj _ hi3 (by omega) hl3 rfl, hl4, hk4⟩⟩
  | goto t =>
   obtain ⟨hk3, hi3⟩ := hp
   obtain ⟨hr, hl3, hl4, hk4⟩ := fin (some (.goto t)) W3 hk3
   exact ⟨_, _, hr, .inr ⟨rfl, .goto t, (hIx _).putObj _ hi3 (by omega) hl3 rfl, hl4, hk4⟩⟩
  | panic ch => exact hp.elim
  | outgrown => exact hp.elim
 case behind =>
  rintro e W2 ⟨⟨v, rfl⟩, (⟨xs, hS, hi, hl, hk⟩ | ⟨pre, hSp, c, hi, hl, hk⟩)⟩
  ·exact ⟨none, _, by have h := run_endLoop (P := P) hl (by rw [hrc]; simp); rw [hrc] at h; exact h, hdone _ xs _ (Nat.le_refl _) hS (hI.putObj _ hi (by omega) hl rfl) ((World.putObj_heap_other (by omega)).trans hk)⟩
  ·exact ⟨some c, _, by have h := run_endLoop (P := P) hl (by rw [hrc]; simp); rw [hrc] at h; exact h, hstop _ c pre _ (Nat.le_refl _) hSp ((hIx c).putObj _ hi (by omega) hl rfl) ((World.putObj_heap_other (by omega)).trans hk)⟩
end Go.Proofs.YtfjipoijbmmjcaaGreatDoor
