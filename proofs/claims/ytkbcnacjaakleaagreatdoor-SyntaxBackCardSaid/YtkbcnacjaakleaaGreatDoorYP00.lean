/- Small lemmas that all texts of this seat share: equations between endings, the frame of calls that only make new blocks, draws. Words, the plain law: what a text's words are; what words are as a text. Trees, and what tabor.tree.Parse reads, in plain words. Rows of the call's own: bytes and texts that are appended to; bytes as a text. Rows of cells that are built, stored, loaded whole. A drawn region whose callees make memory: one walk, in the text's order. -/
import Derived.WalkKit
import Derived.BigQuiet
import Derived.WalkSpells
import Derived.WalkLawsBesides
import Derived.Lib.Hide
import Derived.Deep.QuietTactic
import Derived.Sort.Grow
import Derived.Deep.RegionWith
import Derived.OrdersHeld
import Derived.Lib.ItoaNum
import Derived.Test.YtkbcnacjaakleaaGreatDoorProg
import Derived.Laws.OwnMore
import Derived.OwnWalk
import Derived.Deep.LoopGhost
import Derived.Lib.AppendStr
import Derived.Lib.Strings
import Derived.StillTailTactics
import Derived.Lib.Walk
import Derived.Deep.RegionHeld3
import Derived.Deep.DrawnRows
import Derived.Deep.WholeRow
import Derived.Laws.CopyOwn
import Derived.Laws.Rows
import Derived.ScopeJumps
import Derived.WalkMore
set_option maxRecDepth 100000
set_option maxHeartbeats 32000000
set_option linter.unusedVariables false
set_option linter.unusedSimpArgs false
namespace Go.Proofs.YtkbcnacjaakleaaGreatDoor
open Go.RowKit

theorem int_eq {k : IntKind} {a b : Int} (h : a = b) : Value.int k a = Value.int k b := by rw [h]
theorem bool_eq {a b : Bool} (h : a = b) : Value.bool a = Value.bool b := by rw [h]
theorem ret_of {x x' : Value} (h : x = x') : Ending.returned x = Ending.returned x' := by rw [h]
theorem ret2_of {x y x' y' : Value} (h : x = x' ∧ y = y') : Ending.returned (.tuple #[x, y]) = Ending.returned (.tuple #[x', y']) := by rw [h.1, h.2]
def Ext (w w' : World) : Prop := Below w.heap.size w w'
theorem Ext.refl (w : World) : Ext w w := Below.refl _ _
theorem Ext.trans {a b c : World} (h : Ext a b) (k : Ext b c) : Ext a c :=
 Below.trans h (Below.mono k h.size)
theorem Ext.drew {a w : World} (h : Ext a w) : Ext a w.drew := Below.drew h
theorem Ext.drewN {a w : World} (h : Ext a w) (n : Nat) : Ext a (w.drewN n) := ⟨h.os, h.tape, h.output, h.size, h.block⟩
theorem Ext.alloc {a w : World} (h : Ext a w) (o : Obj) : Ext a (w.alloc o) := Below.alloc h h.size o
theorem Ext.setCell {a w : World} (h : Ext a w) {p : Addr} (hp : a.heap.size ≤ p.block) (u : Value) : Ext a (w.setCell p u) := Below.setCell h hp u
theorem Ext.grow {a w : World} (h : Ext a w) (k : Nat) (os : Array Obj) : Ext a (Go.Sort.grow (w.drewN k) os) :=
 Ext.trans h ⟨rfl, rfl, rfl, by simp [Go.Sort.grow, World.drewN], fun k hk => by simp [Go.Sort.grow, World.drewN, Array.getElem?_append, hk]⟩
theorem Ext.cells {w w' : World} (h : Ext w w') : (∀ b o, b < w.heap.size → w'.cell? ⟨b, o, none⟩ = w.cell? ⟨b, o, none⟩) ∧ (∀ b o, b < w.heap.size → w'.frozen? ⟨b, o, none⟩ = w.frozen? ⟨b, o, none⟩) :=
 ⟨fun b o hb => Below.cell h (p := ⟨b, o, none⟩) hb, fun b o hb => Below.frozen h (p := ⟨b, o, none⟩) hb⟩
theorem Ext.le {w w' : World} (h : Ext w w') : w.heap.size ≤ w'.heap.size := h.size
def Only (g : Nat) (w w' : World) : Prop := w.grownBy w' (some g)
theorem Only.refl (g : Nat) (w : World) : Only g w w := World.grownBy.refl w _
theorem Only.of_ext {g : Nat} {w w' : World} (h : Ext w w') : Only g w w' := ⟨h.os, h.tape, h.output, h.size, fun k hk _ => h.block k hk⟩
theorem Only.trans {g : Nat} {a b c : World} (h : Only g a b) (k : Only g b c) : Only g a c :=
 ⟨k.os.trans h.os, k.tape.trans h.tape, k.output.trans h.output, Nat.le_trans h.size k.size, fun i hi hn => (k.block i (Nat.lt_of_lt_of_le hi h.size) hn).trans (h.block i hi hn)⟩
theorem Only.ext {g : Nat} {a b c : World} (h : Only g a b) (k : Ext b c) : Only g a c := h.trans (.of_ext k)
theorem Only.drew {g : Nat} {a w : World} (h : Only g a w) : Only g a w.drew := h.ext (Ext.refl w).drew
theorem Only.setCell {g : Nat} {a w : World} (h : Only g a w) {p : Addr} (hp : p.block = g ∨ a.heap.size ≤ p.block) (u : Value) : Only g a (w.setCell p u) :=
 ⟨h.os, h.tape, h.output, by simpa [World.setCell] using h.size, fun i hi hne => (Below.heap_setCell w p u i (by
  rintro rfl
  rcases hp with hp | hp
  ·exact hne (by rw [hp])
  ·omega)).trans (h.block i hi hne)⟩
theorem Only.cells {g : Nat} {w w' : World} (h : Only g w w') : (∀ b o, b < w.heap.size → ¬ b = g → w'.cell? ⟨b, o, none⟩ = w.cell? ⟨b, o, none⟩) ∧ (∀ b o, b < w.heap.size → ¬ b = g → w'.frozen? ⟨b, o, none⟩ = w.frozen? ⟨b, o, none⟩) :=
 ⟨fun b _ hb hn => World.cell?_of_block (h.block b hb (fun e => hn (Option.some.inj e))), fun b _ hb hn => World.frozen?_of_block (h.block b hb (fun e => hn (Option.some.inj e)))⟩
theorem Only.to_ext {g : Nat} {a w w' : World} (h : Only g w w') (he : Ext a w) (hg : a.heap.size ≤ g) : Ext a w' :=
 ⟨h.os.trans he.os, h.tape.trans he.tape, h.output.trans he.output, Nat.le_trans he.size h.size, fun i hi => (h.block i (Nat.lt_of_lt_of_le hi he.size) (fun e => by have := Option.some.inj e; omega)).trans (he.block i hi)⟩
theorem Only.le {g : Nat} {w w' : World} (h : Only g w w') : w.heap.size ≤ w'.heap.size := h.size
theorem size_alloc (w : World) (o : Obj) : (w.alloc o).heap.size = w.heap.size + 1 := by show (w.heap.push o).size = _; simp
def Blk (w : World) (g : Nat) (t : TypeId) (cs : Array Value) : Prop := w.heap[g]? = some (.cells cs t (0, 0))
theorem Blk.lt {w : World} {g : Nat} {t : TypeId} {cs : Array Value} (h : Blk w g t cs) : g < w.heap.size := by
 rcases Nat.lt_or_ge g w.heap.size with hlt | hge
 ·exact hlt
 ·unfold Blk at h; rw [Array.getElem?_eq_none hge] at h; cases h
theorem Blk.cell {w : World} {g : Nat} {t : TypeId} {cs : Array Value} (h : Blk w g t cs) (i : Nat) : w.cell? ⟨g, i, none⟩ = cs[i]? := cell_of_row w g i cs t (0, 0) h
theorem Blk.frozen {w : World} {g : Nat} {t : TypeId} {cs : Array Value} (h : Blk w g t cs) (i : Nat) : w.frozen? ⟨g, i, none⟩ = false := by
 unfold Blk at h
 simp [World.frozen?, h]
theorem Blk.new (w : World) (t : TypeId) (cs : Array Value) : Blk (w.alloc (.cells cs t)) w.heap.size t cs := heap_alloc_new w _
theorem Blk.drew {w : World} {g : Nat} {t : TypeId} {cs : Array Value} (h : Blk w g t cs) : Blk w.drew g t cs := h
theorem Blk.alloc {w : World} {g : Nat} {t : TypeId} {cs : Array Value} (h : Blk w g t cs) (o : Obj) : Blk (w.alloc o) g t cs := (Below.heap_alloc w o g h.lt).trans h
theorem Blk.set_ {w : World} {g : Nat} {t : TypeId} {cs : Array Value} (h : Blk w g t cs) (i : Nat) (u : Value) : Blk (w.setCell ⟨g, i, none⟩ u) g t (cs.setIfInBounds i u) := by
 unfold Blk at h ⊢
 simp [World.setCell, Array.getElem?_modify, h]
theorem Blk.far {w : World} {g : Nat} {t : TypeId} {cs : Array Value} (h : Blk w g t cs) {p : Addr} (hp : g ≠ p.block) (u : Value) : Blk (w.setCell p u) g t cs := (Below.heap_setCell w p u g hp).trans h
theorem Blk.ext {w w' : World} {g : Nat} {t : TypeId} {cs : Array Value} (h : Blk w g t cs) (hb : Ext w w') : Blk w' g t cs := (hb.block g h.lt).trans h
theorem wp_region_ext {P : Program} {id : Nat} {Q : Exit → Act → World → Prop} {a : Act} {w : World} {l : List Oper} (hm : P.follows .mixedOrders = true) (hB : Region.lexB .any l.toArray = true)
  (h : wpQuiet P l.toArray (fun w' => Ext w w') (fun a' => ∀ w', Ext w w' → Q .normal a' w') l a) : (Code.region id l.toArray true).wp P Q a w :=
 wp_region_quiet (C := fun w' => Ext w w') hm hB ((Ext.refl w).drew) (by simpa using h)
theorem Calls.ext_of {P : Program} {f : FuncId} {args : Array Value} {w W : World} {v : Value} (hW : Ext w W)
  (h : Calls P f args W fun e w' => e = .returned v ∧ Ext W w') : Calls P f args W fun e w'' => e = .returned v ∧ Ext w w'' :=
 h.mono fun _ _ ⟨he, hb⟩ => ⟨he, hW.trans hb⟩
section
variable {P : Program} {ops : Array Oper} {Q : Exit → Act → World → Prop} {md : Region.Mode} {S : World → Prop}
theorem tkH {i : Nat} {oi : Oper} {v : Value} {fuel : Nat} {listed : Array Bool} {a : Act} {w : World} (h : wpAnyH P md ops Q S fuel (listed.setIfInBounds i true) (a.put oi.dst v) w)
  (hi : ops[i]? = some oi := by exact rfl) (hs : Region.noSelect ops = true := by kernel_rfl) (hf : Region.free md ops listed i = true := by kernel_rfl) (hr : (Region.ready md ops listed).contains i = true := by kernel_rfl)
  (hQ : ∀ c a w, Q (.panic c) (a.put oi.dst v) w → Q (.panic c) a w := by exact fun _ _ _ h => h)
  (hy : YieldsIf P ops S oi v a := by exact Or.inl ⟨by rfl, by intro w hSw; (try dsimp only at hSw); go_simp; first | done | with_reducible rfl⟩) (hS : S w := by assumption) : wpAnyH P md ops Q S (fuel + 1) listed a w :=
 wpAnyH_take hi hs hf hr hQ hy hS h
theorem tkO {i : Nat} {oi : Oper} {fuel : Nat} {listed : Array Bool} {a : Act} {w : World} (h : wpAnyH P md ops Q S fuel (listed.setIfInBounds i true) (a.put oi.dst undef) w)
  (hi : ops[i]? = some oi := by exact rfl) (hs : Region.noSelect ops = true := by kernel_rfl) (hf : Region.free md ops listed i = true := by kernel_rfl) (hr : (Region.ready md ops listed).contains i = true := by kernel_rfl)
  (hQ : ∀ c a w, Q (.panic c) (a.put oi.dst undef) w → Q (.panic c) a w := by exact fun _ _ _ h => h)
  (hy : YieldsIf P ops S oi undef a := by exact Or.inr ⟨by rfl, rfl⟩) (hS : S w := by assumption) : wpAnyH P md ops Q S (fuel + 1) listed a w :=
 wpAnyH_take hi hs hf hr hQ hy hS h
end
theorem pzz {α : Type _} : (∀ (l : List α) (i : Nat) (a : α), l.toArray.setIfInBounds i a = (l.set i a).toArray) ∧ (∀ (x : α) (xs : List α) (a : α), (x :: xs).set 0 a = a :: xs) ∧ (∀ (x : α) (xs : List α) (i : Nat) (a : α), (x :: xs).set (i + 1) a = x :: xs.set i a) ∧
  (∀ (xs : List α) (i : Nat) (h : i < xs.toArray.size), xs.toArray[i] = xs[i]'(by simpa using h)) ∧ (∀ (a : α) (xs : List α) (h : 0 < (a :: xs).length), (a :: xs)[0] = a) ∧ (∀ (a : α) (xs : List α) (i : Nat) (h : i + 1 < (a :: xs).length), (a :: xs)[i + 1] = xs[i]'(by simpa using h)) :=
 ⟨fun _ _ _ => List.setIfInBounds_toArray .., fun _ _ _ => rfl, fun _ _ _ _ => rfl, fun _ _ _ => rfl, fun _ _ _ => rfl, fun _ _ _ _ => rfl⟩
end Go.Proofs.YtkbcnacjaakleaaGreatDoor
namespace Go.Proofs.YtkbcnacjaakleaaGreatDoor
open Go.Lib

def letB (c : UInt8) : Bool := (decide (97 ≤ c.toNat) && decide (c.toNat ≤ 122)) || (decide (65 ≤ c.toNat) && decide (c.toNat ≤ 90)) || decide (c.toNat = 95)
def digB (c : UInt8) : Bool := decide (48 ≤ c.toNat) && decide (c.toNat ≤ 57)
def wrdB (c : UInt8) : Bool := letB c || digB c
def blkB (c : UInt8) : Bool := decide (c.toNat = 32) || decide (c.toNat = 9) || decide (c.toNat = 10) || decide (c.toNat = 13)
def headB (p : UInt8 → Bool) : List UInt8 → Bool
 | [] => false
 | c :: _ => p c
def keyL : List (List UInt8) := [[97, 110, 100], [98, 114, 101, 97, 107], [100, 111], [101, 108, 115, 101], [101, 108, 115, 101, 105, 102], [101, 110, 100], [102, 97, 108, 115, 101], [102, 111, 114], [102, 117, 110, 99, 116, 105, 111, 110], [105, 102], [105, 110], [108, 111, 99, 97, 108], [110, 105, 108], [110, 111, 116], [111, 114], [114, 101, 116, 117, 114, 110], [116, 104, 101, 110], [116, 114, 117, 101], [119, 104, 105, 108, 101]]
def signL : List (List UInt8) := [[61, 61], [126, 61], [60, 61], [62, 61], [46, 46], [43], [45], [42], [47], [37], [35], [60], [62], [61], [40], [41], [123], [125], [91], [93], [59], [58], [44], [46]]
def keyB (s : List UInt8) : Bool := keyL.any fun x => x == s
def signB (s : List UInt8) : Bool := signL.any fun x => x == s
def blankS : Bool → List UInt8 → Nat
 | _, [] => 0
 | true, c :: l => if c.toNat = 10 then blankS false l + 1 else blankS true l + 1
 | false, c :: l => if blkB c = true then blankS false l + 1 else if c.toNat = 45 ∧ (l.head?.map (·.toNat)) = some 45 then blankS true l + 1 else 0
def escP : List UInt8 → Option (UInt8 × Nat)
 | [] => none
 | c :: l =>
  if c.toNat = 110 then some (10, 1) else if c.toNat = 116 then some (9, 1) else if c.toNat = 114 then some (13, 1)
  else if c.toNat = 92 ∨ c.toNat = 39 ∨ c.toNat = 34 then some (c, 1)
  else match l with
   | d :: e :: _ => if digB c = true ∧ digB d = true ∧ digB e = true then
     (if 100 * (c.toNat - 48) + 10 * (d.toNat - 48) + (e.toNat - 48) ≤ 255 then some (UInt8.ofNat (100 * (c.toNat - 48) + 10 * (d.toNat - 48) + (e.toNat - 48)), 3) else none) else none
   | _ => none
def textP (q : UInt8) : List UInt8 → Option (List UInt8 × Nat)
  | [] => none
  | c :: l => if c = q then some ([], 1) else if c.toNat = 10 then none else if c.toNat = 92 then
      (match escP l with
       | none => none
       | some (b, n) => (textP q (l.drop n)).map fun x => (b :: x.1, x.2 + (n + 1)))
    else (textP q l).map fun x => (c :: x.1, x.2 + 1)
termination_by l => l.length
decreasing_by all_goals (simp only [List.length_drop, List.length_cons]; omega)
def runP : List UInt8 → Nat
 | [] => 0
 | c :: l => if wrdB c = true then runP l + 1 else 0
def nameP (l : List UInt8) : Bool := !l.isEmpty && decide (l.length ≤ 64) && headB letB l && !keyB l && l.all wrdB
def decVal : List UInt8 → Nat → Nat
 | [], n => n
 | c :: l, n => decVal l (10 * n + (c.toNat - 48))
def numP (l : List UInt8) : Option Nat := if l.all digB = true ∧ decVal l 0 ≤ 9223372036854775807 then some (decVal l 0) else none
structure Wd where
 k : Int
 t : List UInt8
 n : Int
 a : Int
deriving DecidableEq
def preB (x l : List UInt8) : Bool := x.isPrefixOf l
def wordQ : List UInt8 → Option (Wd × Nat)
 | [] => none
 | c :: r => if c.toNat = 39 ∨ c.toNat = 34 then (textP c r).map fun x => (⟨3, x.1, 0, 0⟩, x.2 + 1)
   else (signL.find? fun x => preB x (c :: r)).map fun x => (⟨4, x, 0, 0⟩, x.length)
def wordP (l : List UInt8) : Option (Wd × Nat) :=
  if 0 < runP l then
    (if headB letB l = true then
      (if keyB (l.take (runP l)) = true then some (⟨1, l.take (runP l), 0, 0⟩, runP l)
       else if nameP (l.take (runP l)) = true then some (⟨0, l.take (runP l), 0, 0⟩, runP l) else none)
     else (numP (l.take (runP l))).map fun (x : Nat) => ((⟨2, [], (x : Int), 0⟩ : Wd), runP l))
  else wordQ l
def lexP (at_ : Nat) (l : List UInt8) : Except Nat (List Wd) :=
 if h : l = [] then .ok [] else
  match wordP l with
  | none => .error at_
  | some (w, n) => (lexP (at_ + (n - 1 + 1) + blankS false (l.drop (n - 1 + 1))) (l.drop (n - 1 + 1 + blankS false (l.drop (n - 1 + 1))))).map fun x => { w with a := at_ } :: x
termination_by l.length
decreasing_by
 have : 0 < l.length := List.length_pos_iff.2 h
 simp only [List.length_drop]
 omega
def lexS (l : List UInt8) : Except Nat (List Wd) := lexP (blankS false l) (l.drop (blankS false l))
def quoB (c : UInt8) : List UInt8 :=
 if c.toNat = 10 then [92, 110] else if c.toNat = 9 then [92, 116] else if c.toNat = 13 then [92, 114]
 else if c.toNat = 39 ∨ c.toNat = 92 then [92, c]
 else if c.toNat < 32 ∨ 126 < c.toNat then [92, UInt8.ofNat (48 + c.toNat / 100), UInt8.ofNat (48 + c.toNat / 10 % 10), UInt8.ofNat (48 + c.toNat % 10)] else [c]
def quoteP (l : List UInt8) : List UInt8 := 39 :: (l.flatMap quoB ++ [39])
def mayP (w : Wd) : Bool :=
 if w.k = 0 then nameP w.t && decide (w.n = 0) else if w.k = 1 then keyB w.t && decide (w.n = 0) else if w.k = 2 then w.t.isEmpty && decide (0 ≤ w.n)
 else if w.k = 3 then decide (w.n = 0) else if w.k = 4 then signB w.t && decide (w.n = 0) else false
def toldP (w : Wd) : List UInt8 := if w.k = 2 then decDigits w.n.toNat else if w.k = 3 then quoteP w.t else w.t
def joinP : List Wd → List UInt8
 | [] => []
 | [w] => toldP w
 | w :: v :: l => toldP w ++ 32 :: joinP (v :: l)
def alikeW (a b : Wd) : Bool := decide (a.k = b.k) && decide (a.t = b.t) && decide (a.n = b.n)
def alikeL : List Wd → List Wd → Bool
 | [], [] => true
 | a :: l, b :: m => alikeW a b && alikeL l m
 | _, _ => false
end Go.Proofs.YtkbcnacjaakleaaGreatDoor
namespace Go.Proofs.YtkbcnacjaakleaaGreatDoor

inductive Nd where
 | mk (k : Int) (name text : ByteArray) (n : Int) (names : List ByteArray) (kids : List Nd)
def Nd.k : Nd → Int | .mk k _ _ _ _ _ => k
def Nd.name : Nd → ByteArray | .mk _ s _ _ _ _ => s
def Nd.text : Nd → ByteArray | .mk _ _ t _ _ _ => t
def Nd.n : Nd → Int | .mk _ _ _ n _ _ => n
def Nd.names : Nd → List ByteArray | .mk _ _ _ _ l _ => l
def Nd.kids : Nd → List Nd | .mk _ _ _ _ _ l => l
abbrev eB : ByteArray := ⟨#[]⟩
def ndK (k : Int) (kids : List Nd) : Nd := .mk k eB eB 0 [] kids
def ndS (k : Int) (s : ByteArray) (kids : List Nd) : Nd := .mk k s eB 0 [] kids
def ndL (k : Int) (l : List ByteArray) (kids : List Nd) : Nd := .mk k eB eB 0 l kids
def ndT (s : ByteArray) : Nd := .mk 14 eB s 0 [] []
def ndI (n : Int) : Nd := .mk 13 eB eB n [] []
structure Ps where
 p : Nat
 o : Nat
structure Wz where
 ws : List Wd
 long : Int
abbrev PR (α : Type) := Except (Int × Int) (α × Ps)
section
variable (z : Wz)
def atW (p : Nat) : Int := match z.ws[p]? with | some w => w.a | none => z.long
def isW (p : Nat) (s : List UInt8) : Bool := match z.ws[p]? with | some w => w.t == s && (w.k == 4 || w.k == 1) | none => false
def kindW (p : Nat) (k : Int) : Option Wd := match z.ws[p]? with | some w => if w.k = k then some w else none | none => none
abbrev tEnd : List UInt8 := [101, 110, 100]
abbrev tElse : List UInt8 := [101, 108, 115, 101]
abbrev tElseif : List UInt8 := [101, 108, 115, 101, 105, 102]
abbrev tLocal : List UInt8 := [108, 111, 99, 97, 108]
abbrev tFunction : List UInt8 := [102, 117, 110, 99, 116, 105, 111, 110]
abbrev tDo : List UInt8 := [100, 111]
abbrev tIf : List UInt8 := [105, 102]
abbrev tThen : List UInt8 := [116, 104, 101, 110]
abbrev tWhile : List UInt8 := [119, 104, 105, 108, 101]
abbrev tFor : List UInt8 := [102, 111, 114]
abbrev tBreak : List UInt8 := [98, 114, 101, 97, 107]
abbrev tReturn : List UInt8 := [114, 101, 116, 117, 114, 110]
abbrev tNot : List UInt8 := [110, 111, 116]
abbrev tNil : List UInt8 := [110, 105, 108]
abbrev tTrue : List UInt8 := [116, 114, 117, 101]
abbrev tFalse : List UInt8 := [102, 97, 108, 115, 101]
abbrev tOr : List UInt8 := [111, 114]
abbrev tAnd : List UInt8 := [97, 110, 100]
def wantP (s : Ps) (t : List UInt8) : PR Unit := if isW z s.p t then .ok ((), ⟨s.p + 1, s.o⟩) else .error (atW z s.p, 220)
def nameR (s : Ps) : PR ByteArray := match kindW z s.p 0 with | some w => .ok (⟨w.t.toArray⟩, ⟨s.p + 1, s.o⟩) | none => .error (atW z s.p, 220)
def skipP (s : Ps) (t : List UInt8) : Ps := if isW z s.p t then ⟨s.p + 1, s.o⟩ else s
def moreR {α : Type} (f : Ps → PR α) : Nat → Ps → List α → PR (List α)
 | 0, s, acc => .error (0, 0)
 | k + 1, s, acc => if isW z s.p [44] then (match f ⟨s.p + 1, s.o⟩ with | .error e => .error e | .ok (x, s') => moreR f k s' (acc ++ [x])) else .ok (acc, s)
def commaR {α : Type} (f : Ps → PR α) (s : Ps) : PR (List α) := match f s with | .error e => .error e | .ok (x, s') => moreR z f (z.ws.length + 1) s' [x]
def withinR {α : Type} (f : Ps → PR α) (s : Ps) : PR α :=
 if 100 < s.o + 1 then .error (atW z (s.p - 1), 221) else match f ⟨s.p, s.o + 1⟩ with | .error e => .error e | .ok (x, s') => .ok (x, ⟨s'.p, s'.o - 1⟩)
def endsW (p : Nat) : Bool := !(decide (p < z.ws.length)) || isW z p tEnd || isW z p tElse || isW z p tElseif
def blockL (f : Ps → PR Nd) : Nat → Ps → List Nd → PR (List Nd)
 | 0, s, acc => .error (0, 0)
 | k + 1, s, acc => if endsW z s.p then .ok (acc, s) else match f s with
  | .error e => .error e
  | .ok (x, s') => if x.k = 7 ∨ x.k = 8 then .ok (acc ++ [x], skipP z s' [59]) else blockL f k (skipP z s' [59]) (acc ++ [x])
def blockR (f : Ps → PR Nd) (s : Ps) : PR Nd := match blockL z f (z.ws.length + 1) s [] with | .error e => .error e | .ok (l, s') => .ok (ndK 0 l, s')
def openedR (f : Ps → PR Nd) (s : Ps) : PR Nd := withinR z (blockR z f) s
def endedR (f : Ps → PR Nd) (s : Ps) : PR Nd := match openedR z f s with
 | .error e => .error e
 | .ok (x, s') => match wantP z s' tEnd with | .error e => .error e | .ok (_, s'') => .ok (x, s'')
structure Pz where
 st : Ps → PR Nd
 ex : Nat → Ps → PR Nd
 be : Ps → PR Nd
variable (r : Pz)
def funcR (s : Ps) : PR Nd := match nameR z s with
 | .error e => .error e
 | .ok (nm, s1) => match wantP z s1 [40] with
  | .error e => .error e
  | .ok (_, s2) =>
   if isW z s2.p [41] then (match endedR z r.st ⟨s2.p + 1, s2.o⟩ with | .error e => .error e | .ok (b, s3) => .ok (ndS 9 nm [b], s3))
   else match commaR z (nameR z) s2 with
    | .error e => .error e
    | .ok (l, s3) => match wantP z s3 [41] with
     | .error e => .error e
     | .ok (_, s4) => match endedR z r.st s4 with
      | .error e => .error e
      | .ok (b, s5) => .ok (.mk 9 nm eB 0 l [b], s5)
def localR (s : Ps) : PR Nd := if isW z s.p tFunction then funcR z r ⟨s.p + 1, s.o⟩ else match commaR z (nameR z) s with
 | .error e => .error e
 | .ok (l, s1) => if isW z s1.p [61] then (match commaR z (r.ex 0) ⟨s1.p + 1, s1.o⟩ with
   | .error e => .error e
   | .ok (x, s2) => if l.length < x.length then .error (atW z (s1.p + 1), 220) else .ok (ndL 1 l x, s2))
  else .ok (ndL 1 l [], s1)
def branchL : Nat → Ps → List Nd → PR (List Nd)
 | 0, s, acc => .error (0, 0)
 | k + 1, s, acc => match r.ex 0 s with
  | .error e => .error e
  | .ok (c, s1) => match wantP z s1 tThen with
   | .error e => .error e
   | .ok (_, s2) => match openedR z r.st s2 with
    | .error e => .error e
    | .ok (b, s3) => if isW z s3.p tElseif then branchL k ⟨s3.p + 1, s3.o⟩ (acc ++ [c] ++ [b]) else .ok (acc ++ [c] ++ [b], s3)
def choiceR (s : Ps) : PR Nd := match branchL z r (z.ws.length + 1) s [] with
 | .error e => .error e
 | .ok (l, s1) =>
  if isW z s1.p tElse then (match openedR z r.st ⟨s1.p + 1, s1.o⟩ with
   | .error e => .error e
   | .ok (b, s2) => match wantP z s2 tEnd with | .error e => .error e | .ok (_, s3) => .ok (ndK 4 (l ++ [b]), s3))
  else match wantP z s1 tEnd with | .error e => .error e | .ok (_, s3) => .ok (ndK 4 l, s3)
def loopE (nm : ByteArray) (l : List Nd) (s : Ps) : PR Nd := match wantP z s tDo with
 | .error e => .error e
 | .ok (_, s1) => match endedR z r.st s1 with | .error e => .error e | .ok (b, s2) => .ok (ndL 6 [nm] (l ++ [b]), s2)
def loopR (s : Ps) : PR Nd := match nameR z s with
 | .error e => .error e
 | .ok (nm, s1) => match wantP z s1 [61] with
  | .error e => .error e
  | .ok (_, s2) => match r.ex 0 s2 with
   | .error e => .error e
   | .ok (a, s3) => match wantP z s3 [44] with
    | .error e => .error e
    | .ok (_, s4) => match r.ex 0 s4 with
     | .error e => .error e
     | .ok (b, s5) =>
      if isW z s5.p [44] then (match r.ex 0 ⟨s5.p + 1, s5.o⟩ with
       | .error e => .error e
       | .ok (c, s6) => loopE z r nm [a, b, c] s6)
      else loopE z r nm [a, b] s5
def whileR (s : Ps) : PR Nd := match r.ex 0 s with
 | .error e => .error e
 | .ok (c, s1) => match wantP z s1 tDo with
  | .error e => .error e
  | .ok (_, s2) => match endedR z r.st s2 with | .error e => .error e | .ok (b, s3) => .ok (ndK 5 [c, b], s3)
def returnR (s : Ps) : PR Nd :=
 if !(decide (s.p < z.ws.length)) || isW z s.p [59] || isW z s.p tEnd || isW z s.p tElse || isW z s.p tElseif then .ok (ndK 7 [], s)
 else match r.ex 0 s with | .error e => .error e | .ok (x, s1) => .ok (ndK 7 [x], s1)
def plainR (s : Ps) : PR Nd := match r.be s with
 | .error e => .error e
 | .ok (n, s1) =>
  if n.k = 17 ∧ isW z s1.p [61] = false then .ok (n, s1)
  else if n.k = 15 ∨ n.k = 16 then (match wantP z s1 [61] with
   | .error e => .error e
   | .ok (_, s2) => match r.ex 0 s2 with | .error e => .error e | .ok (x, s3) => .ok (ndK 2 [n, x], s3))
  else .error (atW z s.p, 220)
def stmtR (s : Ps) : PR Nd :=
 if isW z s.p tLocal then localR z r ⟨s.p + 1, s.o⟩
 else if isW z s.p tDo then (match endedR z r.st ⟨s.p + 1, s.o⟩ with | .error e => .error e | .ok (b, s1) => .ok (ndK 3 [b], s1))
 else if isW z s.p tIf then choiceR z r ⟨s.p + 1, s.o⟩
 else if isW z s.p tWhile then whileR z r ⟨s.p + 1, s.o⟩
 else if isW z s.p tFor then loopR z r ⟨s.p + 1, s.o⟩
 else if isW z s.p tBreak then .ok (ndK 8 [], ⟨s.p + 1, s.o⟩)
 else if isW z s.p tReturn then returnR z r ⟨s.p + 1, s.o⟩
 else plainR z r s
def bondL : List (List (List UInt8)) := [[tOr], [tAnd], [[61, 61], [126, 61], [60], [60, 61], [62], [62, 61]], [[46, 46]], [[43], [45]], [[42], [47], [37]]]
def operW (p : Nat) (lv : Nat) : Option (List UInt8) := match z.ws[p]? with
 | some w => if (w.k == 4 || w.k == 1) && (bondL.getD lv []).contains w.t then some w.t else none
 | none => none
def binN (op : List UInt8) (a b : Nd) : Nd := ndS 21 ⟨op.toArray⟩ [a, b]
def operL (lv : Nat) : Nat → Ps → List Nd → List (List UInt8) → PR (List Nd × List (List UInt8))
 | 0, s, acc, ops => .error (0, 0)
 | k + 1, s, acc, ops => match operW z s.p lv with
  | none => .ok ((acc, ops), s)
  | some op => match r.ex (lv + 1) ⟨s.p + 1, s.o⟩ with | .error e => .error e | .ok (x, s') => operL lv k s' (acc ++ [x]) (ops ++ [op])
def leftN : Nd → List (List UInt8) → List Nd → Nd
 | n, op :: ops, x :: l => leftN (binN op n x) ops l
 | n, _, _ => n
def rightN : List Nd → List (List UInt8) → Nd
 | [], _ => ndK 0 []
 | [x], _ => x
 | x :: l, [] => x
 | x :: l, op :: ops => binN op x (rightN l ops)
def exprR (lv : Nat) (s : Ps) : PR Nd := match r.ex (lv + 1) s with
 | .error e => .error e
 | .ok (x, s1) => match operL z r lv (z.ws.length + 1) s1 [x] [] with
  | .error e => .error e
  | .ok ((l, ops), s2) => .ok (if lv = 3 then rightN l ops else leftN (l.headD (ndK 0 [])) ops l.tail, s2)
def aheadL : Nat → Nat → List Int → Nat × List Int
 | 0, p, acc => (p, acc)
 | k + 1, p, acc => if isW z p tNot then aheadL k (p + 1) (acc ++ [22]) else if isW z p [45] then aheadL k (p + 1) (acc ++ [23]) else if isW z p [35] then aheadL k (p + 1) (acc ++ [24]) else (p, acc)
def unaryR (s : Ps) : PR Nd := match r.be ⟨(aheadL z (z.ws.length + 1) s.p []).1, s.o⟩ with
 | .error e => .error e
 | .ok (n, s1) => .ok ((aheadL z (z.ws.length + 1) s.p []).2.foldr (fun k n => ndK k [n]) n, s1)
def bracketR (c : List UInt8) (s : Ps) : PR Nd := match withinR z (r.ex 0) s with
 | .error e => .error e
 | .ok (n, s1) => match wantP z s1 c with | .error e => .error e | .ok (_, s2) => .ok (n, s2)
def argsR (s : Ps) : PR (List Nd) := if isW z s.p [41] then .ok ([], s) else commaR z (r.ex 0) s
def callN (nm : ByteArray) (s : Ps) : PR Nd := match withinR z (argsR z r) s with
 | .error e => .error e
 | .ok (l, s1) => match wantP z s1 [41] with | .error e => .error e | .ok (_, s2) => .ok (ndS 17 nm l, s2)
def itemR (s : Ps) : PR Nd :=
 if isW z s.p [91] then (match bracketR z r [93] ⟨s.p + 1, s.o⟩ with
  | .error e => .error e
  | .ok (k, s1) => match wantP z s1 [61] with
   | .error e => .error e
   | .ok (_, s2) => match r.ex 0 s2 with | .error e => .error e | .ok (x, s3) => .ok (ndK 20 [k, x], s3))
 else match kindW z s.p 0, z.ws[s.p + 1]? with
  | some w, some w2 => if w2.k = 4 ∧ w2.t = [61] then (match r.ex 0 ⟨s.p + 2, s.o⟩ with
    | .error e => .error e
    | .ok (x, s3) => .ok (ndK 20 [ndT ⟨w.t.toArray⟩, x], s3))
   else (match r.ex 0 s with | .error e => .error e | .ok (x, s1) => .ok (ndK 19 [x], s1))
  | _, _ => (match r.ex 0 s with | .error e => .error e | .ok (x, s1) => .ok (ndK 19 [x], s1))
def itemL : Nat → Ps → List Nd → PR (List Nd)
 | 0, s, acc => .error (0, 0)
 | k + 1, s, acc => if isW z s.p [125] then .ok (acc, s) else match itemR z r s with
  | .error e => .error e
  | .ok (x, s1) => if isW z s1.p [44] || isW z s1.p [59] then itemL k ⟨s1.p + 1, s1.o⟩ (acc ++ [x]) else .ok (acc ++ [x], s1)
def tableR (s : Ps) : PR Nd := match withinR z (fun s => itemL z r (z.ws.length + 1) s []) s with
 | .error e => .error e
 | .ok (l, s1) => match wantP z s1 [125] with | .error e => .error e | .ok (_, s2) => .ok (ndK 18 l, s2)
def operandR (s : Ps) : PR (Nd × Bool) :=
 match kindW z s.p 2 with
 | some w => .ok ((ndI w.n, false), ⟨s.p + 1, s.o⟩)
 | none => match kindW z s.p 3 with
  | some w => .ok ((ndT ⟨w.t.toArray⟩, false), ⟨s.p + 1, s.o⟩)
  | none => match kindW z s.p 0 with
   | some w => if isW z (s.p + 1) [40] then (match callN z r ⟨w.t.toArray⟩ ⟨s.p + 2, s.o⟩ with | .error e => .error e | .ok (n, s1) => .ok ((n, true), s1))
    else .ok ((ndS 15 ⟨w.t.toArray⟩ [], true), ⟨s.p + 1, s.o⟩)
   | none =>
    if isW z s.p tNil then .ok ((ndK 10 [], false), ⟨s.p + 1, s.o⟩)
    else if isW z s.p tTrue then .ok ((ndK 11 [], false), ⟨s.p + 1, s.o⟩)
    else if isW z s.p tFalse then .ok ((ndK 12 [], false), ⟨s.p + 1, s.o⟩)
    else if isW z s.p [40] then (match bracketR z r [41] ⟨s.p + 1, s.o⟩ with | .error e => .error e | .ok (n, s1) => .ok ((n, true), s1))
    else match wantP z s [123] with
     | .error e => .error e
     | .ok (_, s1) => match tableR z r s1 with | .error e => .error e | .ok (n, s2) => .ok ((n, false), s2)
def indexL : Nat → Ps → Nd → PR Nd
 | 0, s, n => .error (0, 0)
 | k + 1, s, n =>
  if isW z s.p [91] then (match bracketR z r [93] ⟨s.p + 1, s.o⟩ with | .error e => .error e | .ok (x, s1) => indexL k s1 (ndK 16 [n, x]))
  else if isW z s.p [46] then (match nameR z ⟨s.p + 1, s.o⟩ with | .error e => .error e | .ok (x, s1) => indexL k s1 (ndK 16 [n, ndT x]))
  else .ok (n, s)
def behindR (s : Ps) : PR Nd := match operandR z r s with
 | .error e => .error e
 | .ok ((n, may), s1) => if may = true then indexL z r (z.ws.length + 1) s1 n else .ok (n, s1)
def pzS : Pz := ⟨stmtR z r, fun lv s => if lv = 6 then unaryR z r s else exprR z r lv s, behindR z r⟩
end
def pz (z : Wz) : Nat → Pz
 | 0 => ⟨fun _ => .error (0, 0), fun _ _ => .error (0, 0), fun _ => .error (0, 0)⟩
 | f + 1 => pzS z (pz z f)
def treeR (z : Wz) : Except (Int × Int) Nd := match blockR z (pz z (10 * z.ws.length + 10)).st ⟨0, 0⟩ with
 | .error e => .error e
 | .ok (n, s) => if s.p = z.ws.length then .ok n else .error (atW z s.p, 220)
end Go.Proofs.YtkbcnacjaakleaaGreatDoor
namespace Go.Proofs.YtkbcnacjaakleaaGreatDoor
open Go.RowKit

theorem own_of_heap {w w' : World} {base : Nat} {e : TypeId} {s : Nat} {v : Value} {n : Nat} {xs : List Value} (h : w.ownsRow base e s v n xs) (hh : ∀ g, base ≤ g → g < w.heap.size → w'.heap[g]? = w.heap[g]?) : w'.ownsRow base e s v n xs := by
 obtain ⟨hl, h⟩ := h
 refine ⟨hl, ?_⟩
 rcases h with h | ⟨g, cap, cur, e1, hb, hc, h2⟩
 ·exact .inl h
 ·have hg : g < w.heap.size := by
   rcases Nat.lt_or_ge g w.heap.size with h | h
   ·exact h
   ·rw [Array.getElem?_eq_none h] at hc; cases hc
  exact .inr ⟨g, cap, cur, e1, hb, (hh g hb hg).trans hc, h2⟩
theorem own_ext {w w' : World} {base : Nat} {e : TypeId} {s : Nat} {v : Value} {n : Nat} {xs : List Value} (h : w.ownsRow base e s v n xs) (ho : Ext w w') : w'.ownsRow base e s v n xs :=
 own_of_heap h fun k hk hl => ho.block k hl
theorem own_set {w : World} {base g i : Nat} {u : Value} {e : TypeId} {s : Nat} {v : Value} {n : Nat} {xs : List Value} (h : w.ownsRow base e s v n xs) (hg : g < base) : (w.setCell ⟨g, i, none⟩ u).ownsRow base e s v n xs :=
 own_of_heap h fun k hk hl => Below.heap_setCell w _ u k (by show k ≠ g; omega)
theorem own_block {w : World} {base : Nat} {e : TypeId} {s : Nat} {v : Value} {n : Nat} {xs : List Value} (h : w.ownsRow base e s v n xs) : ∀ x, v.ownBlock = some x → base ≤ x := by
 intro x hx
 obtain ⟨_, ⟨rfl, _⟩ | ⟨g, cap, cur, rfl, hb, _⟩⟩ := h
 ·cases hx
 ·cases hx; exact hb
theorem Ext.grown {a b c : World} {row : Option Nat} (h : Ext a b) (hg : b.grownBy c row) (hr : ∀ x, row = some x → a.heap.size ≤ x) : Ext a c :=
 ⟨hg.os.trans h.os, hg.tape.trans h.tape, hg.output.trans h.output, Nat.le_trans h.size hg.size, fun k hk => (hg.block k (Nat.lt_of_lt_of_le hk h.size) (fun e => by have := hr k e.symm; omega)).trans (h.block k hk)⟩
theorem wpList_append_run {P : Program} {w : World} {ops : Array Oper} {rest : List Oper} {o : Oper} {a : Act} {Q : Exit → Act → World → Prop} (hgd : o.guard = none) (s x : Operand) (t : TypeId)
  (ho : o.op = .call { callee := .builtin .append, args := #[s, x], argTypes := #[t, t] }) (v x' v' : Value) (w' : World) (hs : a.eval s = v) (hx : a.eval x = x')
  (hrun : (Builtin.append_ #[t, t] o.type #[v, x']).run P w = .ok v' w') (h : wpList P ops Q rest (a.put o.dst v') w') : wpList P ops Q (o :: rest) a w := by
 refine wpList_plain hgd fun K hK => ?_
 unfold Oper.wp execOp
 simp only [ho, resolve, invoke, builtin, Sem.run_bind, Sem.run_pure, Result.andThen_ok, List.map_toArray, List.map_cons, List.map_nil, hs, hx, hrun]
 exact hK _ _ h
theorem infoU8 : (Tryz.prog.info? 5).map (fun i => (i.zero, i.size, i.bytes)) = some (some (.int .u8 0), 1, 1) := by kernel_rfl
theorem byte_one (l : List UInt8) : ∀ v ∈ Lib.byteCells l, v.oneCell' = true := by
 intro v hv
 simp only [Lib.byteCells, List.mem_map] at hv
 obtain ⟨b, _, rfl⟩ := hv
 rfl
def OwnB (w : World) (B : Nat) (v : Value) (l : List UInt8) : Prop := w.ownsRow B 5 1 v l.length (Lib.byteCells l)
theorem OwnB.nil (w : World) (B : Nat) : OwnB w B (.slice none 0 0) [] := World.ownsRow_nil _ _ _ _
theorem OwnB.ext {w w' : World} {B : Nat} {v : Value} {l : List UInt8} (h : OwnB w B v l) (he : Ext w w') : OwnB w' B v l := own_ext h he
theorem OwnB.slice {w : World} {B : Nat} {v : Value} {l : List UInt8} (h : OwnB w B v l) : ∃ q c, v = .slice q l.length c := by
 rcases h.2 with ⟨rfl, h0⟩ | ⟨g, cap, cur, rfl, _⟩
 ·exact ⟨none, 0, by rw [h0]⟩
 ·exact ⟨_, _, rfl⟩
theorem nums_str (l : List UInt8) : strOfNums (l.map fun c => (c.toNat : Int)) = ⟨l.toArray⟩ := by
 unfold strOfNums
 congr 2
 rw [List.map_map]
 conv => rhs; rw [← List.map_id l]
 exact List.map_congr_left fun c _ => by simp
theorem OwnB.conv {w : World} {B : Nat} {v : Value} {l : List UInt8} (h : OwnB w B v l) : (convert 142 9 v).run Tryz.prog w = .ok (.string ⟨l.toArray⟩) w := by
 rcases h.2 with ⟨rfl, h0⟩ | ⟨g, cap, cur, rfl, hb, hh, _⟩
 ·have hl := List.eq_nil_of_length_eq_zero h0
  subst hl
  rw [run_convert_bytes_string w 142 9 5 _ 0 0 Tryz.underlying142 Tryz.underlying5 Tryz.underlying9]
  rfl
 ·have e := run_convert_bytes_arg (P := Tryz.prog) w 142 5 Tryz.underlying142 Tryz.underlying5 g 0 l.length cap (l.map fun x => (x.toNat : Int)) (by simp) (fun k hk => by
   have h1 := World.ownsRow.cells h (g := g) rfl k (.int .u8 (l[k].toNat : Int)) (by simp [Lib.byteCells, List.getElem?_map, List.getElem?_eq_getElem hk])
   have hadd : (⟨g, 0, none⟩ : Addr).add k = ⟨g, 0 + k, none⟩ := by unfold Addr.add; split <;> simp_all
   rw [hadd] at h1
   rw [List.getD_eq_getElem?_getD, List.getElem?_map, List.getElem?_eq_getElem hk]
   exact h1) 9 Tryz.underlying9
  rw [nums_str] at e
  exact e
structure AppB (w : World) (B : Nat) (v : Value) (l : List UInt8) (w' : World) (v' : Value) : Prop where
 own : OwnB w' B v' l
 grow : w.grownBy w' v.ownBlock
 row : ∀ x, v.ownBlock = some x → B ≤ x
theorem AppB.ext {a w w' : World} {B : Nat} {v v' : Value} {l : List UInt8} (h : AppB w B v l w' v') (he : Ext a w) (hB : a.heap.size ≤ B) : Ext a w' :=
 he.grown h.grow fun x hx => Nat.le_trans hB (h.row x hx)
theorem app_lit (w : World) (ty : TypeId) (B : Nat) (v : Value) (l m : List UInt8) (h : OwnB w B v l) (hB : B ≤ w.heap.size) (hlen : l.length + m.length ≤ 140737488355328) :
  ∃ v' w', (Builtin.append_ #[142, 142] ty #[v, .slice (some ⟨w.heap.size, 0, none⟩) m.length m.length]).run Tryz.prog (w.alloc (.cells (Lib.byteCells m).toArray 5)) = .ok v' w' ∧ AppB (w.alloc (.cells (Lib.byteCells m).toArray 5)) B v (l ++ m) w' v' := by
 obtain ⟨i0, hi, hz0, hz1, hz2⟩ := info_parts infoU8
 have h' : OwnB (w.alloc (.cells (Lib.byteCells m).toArray 5)) B v l := h.ext ((Ext.refl w).alloc _)
 obtain ⟨v', w', h1, h2, h3, _⟩ := run_append_own (P := Tryz.prog) _ B 142 ty 5 i0 (.int .u8 0) 1 1 Tryz.underlying142 hi hz0 hz1 hz2 rfl (by omega) v l.length (Lib.byteCells l) h' ⟨w.heap.size, 0, none⟩ m.length m.length (Lib.byteCells m) (by rw [Lib.byteCells_length]; omega)
  (fun j u hu => by
   have hadd : (⟨w.heap.size, 0, none⟩ : Addr).add j = ⟨w.heap.size, 0 + j, none⟩ := by unfold Addr.add; split <;> simp_all
   rw [hadd, (Blk.new w 5 (Lib.byteCells m).toArray).cell, Nat.zero_add]
   simpa using hu) (byte_one m) (by unfold maxLen; omega) (by omega) (by rw [size_alloc]; omega)
 exact ⟨v', w', h1, by unfold OwnB; rw [Lib.byteCells_append, List.length_append]; exact h2, h3, own_block h'⟩
section
variable {P : Program} {ops : Array Oper} {rest : List Oper} {o : Oper} {a : Act} {w : World} {Q : Exit → Act → World → Prop}
theorem wpList_build_to (hgd : o.guard = none) (ty : TypeId) (parts : Array (Nat × Operand)) (ho : o.op = .build ty parts) (xs : Array (Nat × Value)) (hx : (parts.map fun x => (x.1, a.eval x.2)) = xs) (v : Value)
  (hrun : (Instr.build ty xs).run P w = .ok v w) (h : wpList P ops Q rest (a.put o.dst v) w) : wpList P ops Q (o :: rest) a w := by
 refine wpList_plain hgd fun K hK => ?_
 unfold Oper.wp execOp
 subst hx
 simp only [ho, Sem.run_bind, hrun, Sem.run_pure, Result.andThen_ok]
 exact hK _ _ h
theorem wpList_store_row (hgd : o.guard = none) (ty : TypeId) (x y : Operand) (ho : o.op = .store ty x y) (g : Nat) (hx : a.eval x = .pointer (some ⟨g, 0, none⟩)) (cs old : Array Value) (hy : a.eval y = .agg cs) (t : TypeId)
  (hg : w.heap[g]? = some (.cells old t (0, 0))) (hi : (P.info? ty).map (·.size) = some cs.size) (hs : old.size = cs.size) (h1 : cs.all (·.oneCell') = true)
  (h : wpList P ops Q rest (a.put o.dst undef) (w.setRow g cs)) : wpList P ops Q (o :: rest) a w := by
 refine wpList_plain hgd fun K hK => ?_
 unfold Oper.wp execOp
 simp only [ho, hx, hy, Instr.storeAt, Instr.sureAddr, Sem.run_bind, Sem.run_pure, Result.andThen_ok, run_storeVar_row w g t ty old cs hg hi hs h1]
 exact hK _ _ h
end
theorem Ext.setRow {a w : World} {g : Nat} (h : Ext a w) (hg : a.heap.size ≤ g) (cs : Array Value) : Ext a (w.setRow g cs) := below_setRow h hg cs
theorem Blk.setRow {w : World} {g : Nat} {t : TypeId} {cs : Array Value} (h : Blk w g t cs) (cs' : Array Value) : Blk (w.setRow g cs') g t cs' := by
 unfold Blk at h ⊢
 simp [World.setRow, Array.getElem?_modify, h]
theorem new_at {W : World} {k : Nat} (h : k = W.heap.size) (o : Obj) : (W.alloc o).heap[k]? = some o := by subst h; exact heap_alloc_new _ _
theorem wp_scope_fwd {P : Program} {a : Act} {w : World} {Q : Exit → Act → World → Prop} {c rest : Code} (l : Nat) (hf : findLabel c l = some rest)
  (first : c.wp P (Exit.jump l (fun a' w' => rest.wp P (Exit.noGoto Q) a' w') Q) a w) : (Code.scope c).wp P Q a w :=
 wp_scope_jumps l _ (fun _ _ => 0) hf first fun a' w' h => wp_mono h fun e a2 w2 hq => by
  cases e <;> first | exact hq | exact hq.elim
end Go.Proofs.YtkbcnacjaakleaaGreatDoor
namespace Go.Proofs.YtkbcnacjaakleaaGreatDoor
open Go.RowKit

end Go.Proofs.YtkbcnacjaakleaaGreatDoor
