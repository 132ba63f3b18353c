/- What sub, find, byte make of texts, in plain words: whichever of two ways. Numbers as texts in plain words: a text is read as a number just if it is that number's text, whichever of two ways it is read. What the library's functions tell, and what they leave of a heap, in plain words. The library's small functions: must, got, within, place, set, long; how a heap is behind a step. Arguments as they lie; what a function of the library does, as a contract. DERIVED: THE SHELF's CONTRACTS AT THIS DUMP, IN PLAIN WORDS (tools/lay-plain.mjs out of 'TryzItr.lean', which tools/lay-shelf.mjs wrote): THE SAME DECLARATIONS UNDER THE SAME NAMES: 'import', 'namespace', 'open', 'def', 'theorem' AND NOTHING ELSE: no command of the shelf's: FOR A HAND-IN. Each laying: the table of numbers ('.._ren') and one theorem, a field a fact of the dump's own or the kernel's comparison; each contract: ONE APPLICATION. The keys of a table in order, by insertion one by one, are the sorted ones. Keys of maps, sorted. -/
import Derived.Lib.IndexLaws
import Derived.Lib.Repeat
import Derived.Lib.ParseIntBCases
import Derived.Lib.ItoaLen
import Derived.Test.YtfagldjhibdfhaaGreatDoorYA1
import Derived.Test.YtfagldjhibdfhaaGreatDoorYA3
import Derived.Recover
import Derived.Defers
import Derived.Deep.RegionHeld3
import Derived.Shelf.SlIter.Nil
import Derived.Shelf.SlIterI.Nil
import Derived.Shelf.SortM.Plain
import Derived.Shelf.SortM.SortNone
import Derived.Ground.GgzProg
import Derived.Ground.SlgmProg
import Derived.Test.YtfagldjhibdfhaaGreatDoorProg
import Derived.Maps.OwnSet
namespace Go.Proofs.YtfagldjhibdfhaaGreatDoor
open Go.Lib
set_option linter.unusedVariables false

def placeI (n long : Int) : Int := if n < 0 then max (-long - 1) (min n (-1)) + long + 1 else n
def subA (f long : Int) : Int := max 1 (placeI f long)
def subB (u long : Int) : Int := min long (placeI u long)
theorem sub_bounds (f u : Int) (n : Nat) : 1 ≤ subA f n ∧ 0 ≤ subB u n ∧ subB u n ≤ n := by
 unfold subA subB placeI
 refine ⟨by omega, ?_, by omega⟩
 split <;> omega
def subL (l : List UInt8) (f u : Int) : List UInt8 := (l.take (subB u l.length).toNat).drop (subA f l.length - 1).toNat
theorem subL_none (l : List UInt8) (f u : Int) (h : subB u l.length < subA f l.length) : subL l f u = [] := by
 obtain ⟨b1, b2, b3⟩ := sub_bounds f u l.length
 unfold subL
 rw [List.drop_eq_nil_of_le (by simp; omega)]
theorem subL_len (l : List UInt8) (f u : Int) : (subL l f u).length ≤ l.length := by
 unfold subL
 rw [List.length_drop, List.length_take]
 omega
def atL (l : List UInt8) (n : Int) : Option UInt8 := if placeI n l.length < 1 ∨ (l.length : Int) < placeI n l.length then none else some (l.getD (placeI n l.length - 1).toNat 0)
def repL (l : List UInt8) (n : Int) : Option (List UInt8) := if 0 < n ∧ l ≠ [] then (if ((1048576 / l.length : Nat) : Int) < n then none else some (repeatL l n.toNat)) else some []
def charL : List Int → Option (List UInt8)
 | [] => some []
 | n :: r => if n < 0 ∨ 255 < n then none else (charL r).map fun l => UInt8.ofNat n.toNat :: l
theorem charL_snoc : ∀ (l : List Int) (n : Int), charL (l ++ [n]) = (charL l).bind fun x => if n < 0 ∨ 255 < n then none else some (x ++ [UInt8.ofNat n.toNat])
 | [], n => by
  show charL [n] = _
  unfold charL charL
  by_cases h : n < 0 ∨ 255 < n
  ·simp only [Option.bind_some, if_pos h]
  ·simp only [Option.bind_some, if_neg h, Option.map_some, List.nil_append]
 | m :: l, n => by
  show charL (m :: (l ++ [n])) = _
  unfold charL
  by_cases h : m < 0 ∨ 255 < m
  ·simp only [if_pos h, Option.bind_none]
  ·simp only [if_neg h]
   rw [charL_snoc l n]
   cases charL l with
   | none => rfl
   | some x =>
    simp only [Option.bind_some, Option.map_some]
    by_cases h2 : n < 0 ∨ 255 < n
    ·simp only [if_pos h2, Option.map_none]
    ·simp only [if_neg h2, Option.map_some, List.cons_append]
theorem charL_none (l r : List Int) (h : charL l = none) : charL (l ++ r) = none := by
 induction l with
 | nil => cases h
 | cons n l ih =>
  show charL (n :: (l ++ r)) = none
  unfold charL at h ⊢
  split
  ·rfl
  ·rename_i hn
   rw [if_neg hn] at h
   cases hc : charL l with
   | none => rw [ih hc]; rfl
   | some y => rw [hc] at h; cases h
end Go.Proofs.YtfagldjhibdfhaaGreatDoor
namespace Go.Proofs.YtfagldjhibdfhaaGreatDoor
open Go.Lib
set_option linter.unusedVariables false

def tnL (l : List UInt8) : Option Int := match parseIntB 64 l with | .ok v => if itoa v = l then some v else none | _ => none
theorem parse_in {l : List UInt8} {v : Int} (h : parseIntB 64 l = .ok v) : -9223372036854775808 ≤ v ∧ v ≤ 9223372036854775807 := by
 have h63 : (2 : Nat) ^ (64 - 1) = 9223372036854775808 := by decide
 unfold parseIntB at h
 split at h
 ·cases h
 ·simp only [] at h
  split at h
  ·cases h
  ·cases h
  ·rename_i u _
   split at h
   ·cases h
   ·split at h
    ·cases h
    ·rename_i g1 g2
     injection h with h
     rw [h63] at g1 g2
     split at h <;> omega
end Go.Proofs.YtfagldjhibdfhaaGreatDoor
namespace Go.Proofs.YtfagldjhibdfhaaGreatDoor
open Go.RowKit
set_option linter.unusedVariables false
set_option linter.unusedSimpArgs false

def ba (l : List UInt8) : ByteArray := ⟨l.toArray⟩
theorem ba_list (l : List UInt8) : (ba l).data.toList = l := by simp [ba]
theorem ba_size (l : List UInt8) : (ba l).size = l.length := by simp [ba, ByteArray.size]
theorem ba_of (s : ByteArray) : ba s.data.toList = s := by cases s; simp [ba]
def sArgs : ByteArray := ⟨#[97, 114, 103, 115]⟩
def sRange : ByteArray := ⟨#[114, 97, 110, 103, 101]⟩
structure Rs where
 v : Vl
 w : ByteArray
 H : Hp
def Rs.no (H : Hp) (w : ByteArray) : Rs := ⟨Vl.zero, w, H⟩
def Rs.ok (H : Hp) (v : Vl) : Rs := ⟨v, sNone, H⟩
def mkR (H : Hp) (s : ByteArray) : Rs := ⟨mkV H.cells H.spent s, mkW H.cells H.spent s, mkH H s⟩
def sNil : ByteArray := ⟨#[110, 105, 108]⟩
def sTrue : ByteArray := ⟨#[116, 114, 117, 101]⟩
def sFalse : ByteArray := ⟨#[102, 97, 108, 115, 101]⟩
def sTable : ByteArray := ⟨#[116, 97, 98, 108, 101, 58]⟩
def toldV (v : Vl) : ByteArray :=
 if v.k = 0 then sNil else if v.k = 1 then (if v.n = 1 then sTrue else sFalse) else if v.k = 2 then ba (Lib.itoa v.n) else if v.k = 3 then v.s else sTable ++ ba (Lib.itoa v.n)
def kindName (k : Int) : ByteArray :=
 if k = 0 then sNil else if k = 1 then ⟨#[98, 111, 111, 108, 101, 97, 110]⟩ else if k = 2 then ⟨#[110, 117, 109, 98, 101, 114]⟩ else if k = 3 then ⟨#[115, 116, 114, 105, 110, 103]⟩ else ⟨#[116, 97, 98, 108, 101]⟩
def tonumV (v : Vl) : Vl := if v.k = 2 then v else if v.k = 3 then (match tnL v.s.data.toList with | some n => iK n | none => Vl.zero) else Vl.zero
def lenR (H : Hp) (v : Vl) : Rs := if lenW H v = sNone then .ok H (iK (lenV H v)) else .no H (lenW H v)
def repR (H : Hp) (s : ByteArray) (n : Int) : Rs := match repL s.data.toList n with | none => .no H sLong | some x => mkR H (ba x)
def findV (s t : ByteArray) : Vl := if 0 ≤ Lib.index s.data.toList t.data.toList then iK (Lib.index s.data.toList t.data.toList + 1) else Vl.zero
def byteV (s : ByteArray) (n : Int) : Vl := match atL s.data.toList n with | some c => iK c.toNat | none => Vl.zero
def charR (H : Hp) (l : List Vl) : Rs := match charL (l.map (·.n)) with | none => .no H sRange | some x => mkR H (ba x)
def catP (H : Hp) (t : Vl) (sep : List UInt8) : Nat → Int → List UInt8 → Except ByteArray (List UInt8)
 | 0, _, out => .ok out
 | r + 1, i, out =>
  let v := getV H t (iK i)
  if v.k = 3 ∨ v.k = 2 then
   let s := (if 1 < i then sep else []) ++ (toldV v).data.toList
   if (s.length : Int) ≤ 1048576 - out.length then catP H t sep r (i + 1) (out ++ s) else .error sLong
  else .error sType
def concatR (H : Hp) (t : Vl) (sep : ByteArray) : Rs := match catP H t sep.data.toList (lenV H t).toNat 1 [] with | .error w => .no H w | .ok x => mkR H (ba x)
def upP (t : Vl) (a : Int) : Nat → Hp → Hp × ByteArray
 | 0, H => (H, sNone)
 | k + 1, H =>
  if setW H t (iK (a + k + 1)) (getV H t (iK (a + k))) = sNone then upP t a k (setH H t (iK (a + k + 1)) (getV H t (iK (a + k))))
  else (H, setW H t (iK (a + k + 1)) (getV H t (iK (a + k))))
def insertR (H : Hp) (t : Vl) (a : Int) (v : Vl) : Rs :=
 if a < 1 ∨ lenV H t + 1 < a then .no H sRange else if v.k = 0 then .no H sType else
  let x := upP t a (lenV H t + 1 - a).toNat H
  if x.2 = sNone then ⟨Vl.zero, setW x.1 t (iK a) v, setH x.1 t (iK a) v⟩ else .no x.1 x.2
def dnP (t : Vl) (n : Int) : Nat → Hp → Hp × ByteArray
 | 0, H => (H, sNone)
 | k + 1, H =>
  if setW H t (iK (n - k - 1)) (getV H t (iK (n - k))) = sNone then dnP t n k (setH H t (iK (n - k - 1)) (getV H t (iK (n - k))))
  else (H, setW H t (iK (n - k - 1)) (getV H t (iK (n - k))))
def removeR (H : Hp) (t : Vl) (a : Option Int) : Rs :=
 let n := lenV H t
 if a = none ∧ n = 0 then .ok H Vl.zero else
  let p := a.getD n
  if p < 1 ∨ n < p then .no H sRange else
   let x := dnP t n (n - p).toNat H
   if x.2 = sNone then (if setW x.1 t (iK n) Vl.zero = sNone then .ok (setH x.1 t (iK n) Vl.zero) (getV H t (iK p)) else .no (setH x.1 t (iK n) Vl.zero) (setW x.1 t (iK n) Vl.zero)) else .no x.1 x.2
def putP (t : Vl) : List Vl → Int → Hp → Hp × ByteArray
 | [], _, H => (H, sNone)
 | v :: r, i, H => if setW H t (iK i) v = sNone then putP t r (i + 1) (setH H t (iK i) v) else (H, setW H t (iK i) v)
def keyTR (H : Hp) (t : Vl) : Rs :=
 if ofW H t = sNone then
  (if tabW H = sNone then (let x := putP (tabV H) (keysV H t) 1 (tabH H); if x.2 = sNone then .ok x.1 (tabV H) else .no x.1 x.2) else .no H (tabW H))
 else .no H (ofW H t)
def libNames : List ByteArray := [⟨#[98, 121, 116, 101]⟩, ⟨#[99, 104, 97, 114]⟩, ⟨#[99, 111, 110, 99, 97, 116]⟩, ⟨#[102, 105, 110, 100]⟩, ⟨#[105, 110, 115, 101, 114, 116]⟩, ⟨#[107, 101, 121, 115]⟩, ⟨#[108, 101, 110]⟩, ⟨#[114, 101, 109, 111, 118, 101]⟩, ⟨#[114, 101, 112]⟩, ⟨#[115, 117, 98]⟩, ⟨#[116, 111, 110, 117, 109, 98, 101, 114]⟩, ⟨#[116, 111, 115, 116, 114, 105, 110, 103]⟩, ⟨#[116, 121, 112, 101]⟩]
def libIdx (s : ByteArray) : Option Nat := libNames.findIdx? (· = s)
def kindsP (f m : Nat) : List UInt8 :=
 match f with
 | 0 => [116, 110]
 | 1 => List.replicate m 110
 | 2 => [98, 116]
 | 3 => [116, 116]
 | 4 => if m = 2 then [98, 118] else [98, 110, 118]
 | 5 => [98]
 | 6 => [118]
 | 7 => if m = 1 then [98] else [98, 110]
 | 8 => [116, 110]
 | 9 => if m = 2 then [116, 110] else [116, 110, 110]
 | _ => [118]
def kindBad (c : UInt8) (v : Vl) : Bool := !v.ck || (decide (c = 116) && decide (¬ v.k = 3)) || (decide (c = 110) && decide (¬ v.k = 2)) || (decide (c = 98) && decide (¬ v.k = 4))
def askL (H : Hp) : List UInt8 → List Vl → ByteArray
 | c :: ks, v :: vs => if kindBad c v then sType else if v.k = 4 then (if lenW H v = sNone then askL H ks vs else lenW H v) else askL H ks vs
 | _, _ => sNone
def askW (H : Hp) (f : Nat) (l : List Vl) : ByteArray := if (kindsP f l.length).length = l.length then askL H (kindsP f l.length) l else sArgs
def arg (l : List Vl) (i : Nat) : Vl := l.getD i Vl.zero
def doR (H : Hp) (f : Nat) (l : List Vl) : Rs :=
 match f with
 | 0 => .ok H (byteV (arg l 0).s (arg l 1).n)
 | 1 => charR H l
 | 2 => concatR H (arg l 0) (arg l 1).s
 | 3 => .ok H (findV (arg l 0).s (arg l 1).s)
 | 4 => if l.length = 2 then insertR H (arg l 0) (lenV H (arg l 0) + 1) (arg l 1) else insertR H (arg l 0) (arg l 1).n (arg l 2)
 | 5 => keyTR H (arg l 0)
 | 6 => lenR H (arg l 0)
 | 7 => removeR H (arg l 0) (if l.length = 1 then none else some (arg l 1).n)
 | 8 => repR H (arg l 0).s (arg l 1).n
 | 9 => mkR H (ba (subL (arg l 0).s.data.toList (arg l 1).n (if l.length = 2 then -1 else (arg l 2).n)))
 | 10 => .ok H (tonumV (arg l 0))
 | 11 => mkR H (toldV (arg l 0))
 | _ => mkR H (kindName (arg l 0).k)
def callR (H : Hp) (name : ByteArray) (l : List Vl) : Option Rs := (libIdx name).map fun f => if askW H f l = sNone then doR H f l else .no H (askW H f l)
def callV (H : Hp) (name : ByteArray) (l : List Vl) : Vl := match callR H name l with | some r => if r.w = sNone then r.v else Vl.zero | none => Vl.zero
def callW (H : Hp) (name : ByteArray) (l : List Vl) : ByteArray := match callR H name l with | some r => r.w | none => sNone
def callH (H : Hp) (name : ByteArray) (l : List Vl) : Hp := match callR H name l with | some r => r.H | none => H
def callB (name : ByteArray) : Bool := (libIdx name).isSome
end Go.Proofs.YtfagldjhibdfhaaGreatDoor
namespace Go.Proofs.YtfagldjhibdfhaaGreatDoor
open Go.RowKit
set_option linter.unusedVariables false
set_option linter.unusedSimpArgs false

def failV (why : ByteArray) : Value := .iface 73 (.agg #[.string why])
def Fails (why : ByteArray) (e : Ending) : Prop := e = .panicked [{ v := failV why, recovered := false }]
structure Did (r : Rs) (e : Ending) : Prop where
 yes : r.w = sNone → e = .returned r.v.v
 no : ¬ r.w = sNone → Fails r.w e
theorem Did.mk1 {r : Rs} {e : Ending} (h : r.w = sNone) (he : e = .returned r.v.v) : Did r e := ⟨fun _ => he, fun hn => absurd h hn⟩
theorem Did.mk0 {r : Rs} {e : Ending} (h : ¬ r.w = sNone) (he : Fails r.w e) : Did r e := ⟨fun hn => absurd hn h, fun _ => he⟩
structure HS (w : World) (g : Nat) (tv : Value) (rs : List (Nat × Nat)) (w' : World) (tv' : Value) (rs' : List (Nat × Nat)) (H' : Hp) : Prop where
 heap : HeapIn w' g tv' rs' H'
 touch : Touch (Foot g tv rs) w w'
 foot : ∀ x, Foot g tv' rs' x → Foot g tv rs x ∨ w.heap.size ≤ x
def HStep (w : World) (g : Nat) (tv : Value) (rs : List (Nat × Nat)) (w' : World) (H' : Hp) : Prop := ∃ tv' rs', HS w g tv rs w' tv' rs' H'
section
variable {w w1 w2 : World} {g : Nat} {tv tv1 tv2 : Value} {rs rs1 rs2 : List (Nat × Nat)} {H H1 H2 : Hp}
theorem HS.refl (h : HeapIn w g tv rs H) : HS w g tv rs w tv rs H := ⟨h, .refl _ _, fun _ hx => .inl hx⟩
theorem HS.of_ext (h : HeapIn w g tv rs H) (he : Ext w w1) : HS w g tv rs w1 tv rs H := ⟨h.ext he, .of_ext he, fun _ hx => .inl hx⟩
theorem HS.of_touch (h : HeapIn w1 g tv rs H1) (ht : Touch (Foot g tv rs) w w1) : HS w g tv rs w1 tv rs H1 := ⟨h, ht, fun _ hx => .inl hx⟩
theorem HS.trans (a : HS w g tv rs w1 tv1 rs1 H1) (b : HS w1 g tv1 rs1 w2 tv2 rs2 H2) : HS w g tv rs w2 tv2 rs2 H2 :=
 ⟨b.heap, a.touch.transn b.touch a.foot, fun x hx => by
  rcases b.foot x hx with h | h
  ·exact a.foot x h
  ·exact .inr (Nat.le_trans a.touch.size h)⟩
theorem HS.ext (a : HS w g tv rs w1 tv1 rs1 H1) (he : Ext w1 w2) : HS w g tv rs w2 tv1 rs1 H1 := ⟨a.heap.ext he, a.touch.ext he, a.foot⟩
theorem HS.pre (he : Ext w w1) (a : HS w1 g tv rs w2 tv2 rs2 H2) : HS w g tv rs w2 tv2 rs2 H2 :=
 ⟨a.heap, Touch.pre he a.touch, fun x hx => (a.foot x hx).imp id (fun h => Nat.le_trans he.size h)⟩
theorem HS.step (a : HS w g tv rs w1 tv1 rs1 H1) : HStep w g tv rs w1 H1 := ⟨_, _, a⟩
end
theorem make_step (g : Nat) (tv : Value) (rs : List (Nat × Nat)) (H : Hp) (s : ByteArray) (w : World) (h : HeapIn w g tv rs H) (hz : s.size ≤ 9223372036854775807) :
  Calls Tryz.prog 54 #[.pointer (some ⟨g, 0, none⟩), .string s] w fun e w' => e = .returned (.tuple #[(mkR H s).v.v, .string (mkR H s).w]) ∧ HS w g tv rs w' tv rs (mkR H s).H :=
 (make_any g tv H.cells H.spent s w h.head h.ok.low h.ok.le h.ok.most hz).mono fun e w' ⟨he, ho, hb⟩ =>
  ⟨he, ⟨h.only ho _ _ hb (mkC_le h.ok.le h.ok.low).1 (mkC_le h.ok.le h.ok.low).2 h.ok.most, .only ho (.inl rfl), fun _ hx => .inl hx⟩⟩
theorem must_yes (why : ByteArray) (w : World) : Calls Tryz.prog 62 #[.bool true, .string why] w fun e w' => e = .returned (.tuple #[]) ∧ w = w' := by
 go_enter Tryz.func62, Tryz.ntmps62
 go_wp2
 go_end0
 exact ⟨rfl, rfl⟩
theorem must_no (why : ByteArray) (w : World) : Calls Tryz.prog 62 #[.bool false, .string why] w fun e w' => Fails why e ∧ w = w' := by
 go_enter Tryz.func62, Tryz.ntmps62
 go_wp2
 exact ⟨rfl, rfl, rfl⟩
theorem ne_list {s : ByteArray} (h : ¬ s = sNone) : ¬ s.toList = [] := fun e => h (toList_nil e)
set_option maxRecDepth 100000 in
theorem got_yes (v : Vl) (w : World) : Calls Tryz.prog 53 #[v.v, .string sNone] w fun e w' => e = .returned v.v ∧ Ext w w' := by
 have hq : sNone.toList = [] := sNone_list
 go_enter Tryz.func53, Tryz.ntmps53
 go_wp2_with fail
 refine (must_yes _ _).mono ?_
 rintro e w1 ⟨rfl, rfl⟩
 go_wp2_with fail
 exact bodyPost_ret (v := v.v) (by simp [results, Tryz.results53, go_sem]) rfl ⟨rfl, by repeat (first | exact Ext.refl _ | refine Ext.setCell ?_ (by simp) _ | refine Ext.alloc ?_ _)⟩
set_option maxRecDepth 100000 in
theorem got_no (v : Vl) (why : ByteArray) (h : ¬ why = sNone) (w : World) : Calls Tryz.prog 53 #[v.v, .string why] w fun e w' => Fails why e ∧ Ext w w' := by
 have hq : ¬ why.toList = [] := ne_list h
 have hq2 : why.toList.isEmpty = false := by cases hw : why.toList with | nil => exact absurd hw hq | cons _ _ => rfl
 go_enter Tryz.func53, Tryz.ntmps53
 go_wp2_with fail
 refine (must_no _ _).mono ?_
 rintro e w1 ⟨rfl, rfl⟩
 go_wp2_with fail
 exact ⟨rfl, rfl, by repeat (first | exact Ext.refl _ | refine Ext.setCell ?_ (by simp) _ | refine Ext.alloc ?_ _)⟩
theorem within_any (n a b : Int) (w : World) : Calls Tryz.prog 101 #[.int .i64 n, .int .i64 a, .int .i64 b] w fun e w' => e = .returned (.int .i64 (max a (min n b))) ∧ w = w' := by
 go_enter Tryz.func101, Tryz.ntmps101
 go_wp2
 go_ret
 exact ⟨ret_of (int_eq rfl), rfl⟩
theorem place_any (n : Int) (long : Nat) (hl : long ≤ 4611686018427387904) (hn : in64 n) (w : World) : Calls Tryz.prog 67 #[.int .i64 n, .int .i64 (long : Int)] w fun e w' => e = .returned (.int .i64 (placeI n long)) ∧ w = w' := by
 obtain ⟨h1, h2⟩ := hn
 by_cases h : n < 0
 ·have e1 : placeI n long = max (-(long : Int) - 1) (min n (-1)) + long + 1 := by unfold placeI; rw [if_pos h]
  rw [e1]
  clear e1
  go_enter Tryz.func67, Tryz.ntmps67
  go_wp2_with (go_at_call 101; refine (within_any _ _ _ _).mono ?_; rintro e w' ⟨rfl, rfl⟩)
  go_ret
  exact ⟨ret_of (int_eq rfl), rfl⟩
 ·have e1 : placeI n long = n := by unfold placeI; rw [if_neg h]
  rw [e1]
  clear e1
  go_enter Tryz.func67, Tryz.ntmps67
  go_wp2_with fail
  go_ret
  exact ⟨rfl, rfl⟩
set_option maxRecDepth 100000 in
theorem long_yes (g : Nat) (tv : Value) (rs : List (Nat × Nat)) (H : Hp) (v : Vl) (w : World) (h : HeapIn w g tv rs H) (hlen : H.tabs.length ≤ 9223372036854775807) (hw : lenW H v = sNone) :
  Calls Tryz.prog 59 #[.pointer (some ⟨g, 0, none⟩), v.v] w fun e w' => e = .returned (.int .i64 (lenV H v)) ∧ Ext w w' := by
 have hq : sNone.toList = [] := sNone_list
 have hc := len_any g tv rs H v (w.alloc (.cells #[.int .i64 v.k, .int .i64 v.n, .string v.s] 26)) (h.alloc _) hlen
 rw [hw] at hc
 have HC := Lib.hid hc
 clear h hlen hc hw
 go_enter Tryz.func59, Tryz.ntmps59
 go_wp2_with fail
 refine HC.out.mono ?_
 rintro e w1 ⟨rfl, e1⟩
 have E1 := Lib.hid (((Ext.refl w).alloc _).trans e1)
 clear e1 HC
 go_wp2_with fail
 refine (must_yes _ _).mono ?_
 rintro e w2 ⟨rfl, rfl⟩
 go_wp2_with fail
 go_ret
 exact ⟨rfl, E1.out⟩
set_option maxRecDepth 100000 in
theorem long_no (g : Nat) (tv : Value) (rs : List (Nat × Nat)) (H : Hp) (v : Vl) (w : World) (h : HeapIn w g tv rs H) (hlen : H.tabs.length ≤ 9223372036854775807) (hw : ¬ lenW H v = sNone) :
  Calls Tryz.prog 59 #[.pointer (some ⟨g, 0, none⟩), v.v] w fun e w' => Fails (lenW H v) e ∧ Ext w w' := by
 have hc := len_any g tv rs H v (w.alloc (.cells #[.int .i64 v.k, .int .i64 v.n, .string v.s] 26)) (h.alloc _) hlen
 obtain ⟨why, hwhy⟩ : ∃ why, why = lenW H v := ⟨_, rfl⟩
 rw [← hwhy] at hc hw ⊢
 have hq : ¬ why.toList = [] := ne_list hw
 have hq2 : why.toList.isEmpty = false := by cases hw : why.toList with | nil => exact absurd hw hq | cons _ _ => rfl
 have HC := Lib.hid hc
 clear h hlen hc hw hwhy
 go_enter Tryz.func59, Tryz.ntmps59
 go_wp2_with fail
 refine HC.out.mono ?_
 rintro e w1 ⟨rfl, e1⟩
 have E1 := Lib.hid (((Ext.refl w).alloc _).trans e1)
 clear e1 HC
 go_wp2_with fail
 refine (must_no _ _).mono ?_
 rintro e w2 ⟨rfl, rfl⟩
 go_wp2_with fail
 exact ⟨rfl, rfl, E1.out⟩
structure SetE (w : World) (g : Nat) (tv : Value) (rs : List (Nat × Nat)) (H : Hp) (t : Vl) (n : Int) (v : Vl) (e : Ending) (w' : World) : Prop where
 yes : setW H t (iK n) v = sNone → e = .returned (.tuple #[])
 no : ¬ setW H t (iK n) v = sNone → Fails (setW H t (iK n) v) e
 heap : HeapIn w' g tv rs (setH H t (iK n) v)
 touch : Touch (Foot g tv rs) w w'
set_option maxRecDepth 100000 in
set_option maxHeartbeats 1000000 in
theorem lset_any (g : Nat) (tv : Value) (rs : List (Nat × Nat)) (H : Hp) (t : Vl) (n : Int) (v : Vl) (w : World) (h : HeapIn w g tv rs H) (hlen : H.tabs.length ≤ 9223372036854775807) (hn : in64 n) (hvn : in64 v.n) :
  Calls Tryz.prog 103 #[.pointer (some ⟨g, 0, none⟩), t.v, .int .i64 n, v.v] w (SetE w g tv rs H t n v) := by
 have hc := fun (W : World) (hW : HeapIn W g tv rs H) => set_any g tv rs H t (iK n) v W hW hlen hn hvn
 obtain ⟨so, hso⟩ : ∃ so, so = setW H t (iK n) v := ⟨_, rfl⟩
 rw [← hso] at hc
 have hlow : g < w.heap.size := h.low (.inl rfl)
 have HC := Lib.hid hc
 have HI := Lib.hid ((h.alloc (.cells #[.int .i64 t.k, .int .i64 t.n, .string t.s] 26)).alloc (.cells #[.int .i64 v.k, .int .i64 v.n, .string v.s] 26))
 have HW := Lib.hid (((Ext.refl w).alloc (.cells #[.int .i64 t.k, .int .i64 t.n, .string t.s] 26)).alloc (.cells #[.int .i64 v.k, .int .i64 v.n, .string v.s] 26))
 have BT := Lib.hid ((Blk.new w 26 #[.int .i64 t.k, .int .i64 t.n, .string t.s]).alloc (.cells #[.int .i64 v.k, .int .i64 v.n, .string v.s] 26))
 have BV := Lib.hid (show Blk ((w.alloc (.cells #[.int .i64 t.k, .int .i64 t.n, .string t.s] 26)).alloc (.cells #[.int .i64 v.k, .int .i64 v.n, .string v.s] 26)) (w.heap.size + 1) 26 #[.int .i64 v.k, .int .i64 v.n, .string v.s] by
  have := Blk.new (w.alloc (.cells #[.int .i64 t.k, .int .i64 t.n, .string t.s] 26)) 26 #[.int .i64 v.k, .int .i64 v.n, .string v.s]
  rwa [size_alloc] at this)
 have fin : ∀ (e : Ending) (W1 W2 : World), Ext w W1 → HeapIn W2 g tv rs (setH H t (iK n) v) → Touch (Foot g tv rs) W1 W2 → (so = sNone → e = .returned (.tuple #[])) → (¬ so = sNone → Fails so e) → SetE w g tv rs H t n v e W2 :=
  fun e W1 W2 h1 h2 h3 h4 h5 => by rw [hso] at h4 h5; exact ⟨h4, h5, h2, .pre h1 h3⟩
 have FIN := Lib.hid fin
 have n0 : ¬ Foot g tv rs w.heap.size := fun hx => Nat.lt_irrefl _ (h.low hx)
 have n1 : ¬ Foot g tv rs (w.heap.size + 1) := fun hx => Nat.not_lt_of_le (Nat.le_succ _) (h.low hx)
 clear h hlen hc hn hvn hso fin
 go_enter Tryz.func103, Tryz.ntmps103
 go_wp2_with fail
 generalize (w.alloc (.cells #[.int .i64 t.k, .int .i64 t.n, .string t.s] 26)).alloc (.cells #[.int .i64 v.k, .int .i64 v.n, .string v.s] 26) = W at *
 have l0 : w.heap.size < W.heap.size := BT.out.lt
 have l1 : w.heap.size + 1 < W.heap.size := BV.out.lt
 have c0 : W.cell? ⟨w.heap.size, 0, none⟩ = some (.int .i64 t.k) := BT.out.cell 0
 have c1 : W.cell? ⟨w.heap.size, 1, none⟩ = some (.int .i64 t.n) := BT.out.cell 1
 have c2 : W.cell? ⟨w.heap.size, 2, none⟩ = some (.string t.s) := BT.out.cell 2
 have d0 : W.cell? ⟨w.heap.size + 1, 0, none⟩ = some (.int .i64 v.k) := BV.out.cell 0
 have d1 : W.cell? ⟨w.heap.size + 1, 1, none⟩ = some (.int .i64 v.n) := BV.out.cell 1
 have d2 : W.cell? ⟨w.heap.size + 1, 2, none⟩ = some (.string v.s) := BV.out.cell 2
 go_region_held3 (fun w' => w'.cell? ⟨w.heap.size, 0, none⟩ = some (.int .i64 t.k) ∧ w'.cell? ⟨w.heap.size, 1, none⟩ = some (.int .i64 t.n) ∧ w'.cell? ⟨w.heap.size, 2, none⟩ = some (.string t.s) ∧ w'.cell? ⟨w.heap.size + 1, 0, none⟩ = some (.int .i64 v.k) ∧ w'.cell? ⟨w.heap.size + 1, 1, none⟩ = some (.int .i64 v.n) ∧ w'.cell? ⟨w.heap.size + 1, 2, none⟩ = some (.string v.s)) (go_keep)
  (first
   | (go_at_call 17; refine (int_any _ _).mono ?_; rintro e w3 ⟨rfl, e3⟩; have E3 := Lib.hid (show Ext W w3 from Ext.trans (by repeat (first | exact Ext.refl _ | refine Ext.drew ?_)) e3); have x0 := (E3.out.cells.1 _ _ l0).trans c0; have x1 := (E3.out.cells.1 _ _ l0).trans c1; have x2 := (E3.out.cells.1 _ _ l0).trans c2; have y0 := (E3.out.cells.1 _ _ l1).trans d0; have y1 := (E3.out.cells.1 _ _ l1).trans d1; have y2 := (E3.out.cells.1 _ _ l1).trans d2; clear e3)
   | (go_at_call 19; refine (HC.out _ (HI.out.ext E3.out)).mono ?_; rintro e w4 ⟨rfl, h4, t4⟩; have H4 := Lib.hid h4; have T4 := Lib.hid t4; have m0 := Nat.lt_of_lt_of_le l0 E3.out.le; have m1 := Nat.lt_of_lt_of_le l1 E3.out.le; have p0 := (t4.cells.1 _ 0 m0 n0).trans x0; have p1 := (t4.cells.1 _ 1 m0 n0).trans x1; have p2 := (t4.cells.1 _ 2 m0 n0).trans x2; have q0 := (t4.cells.1 _ 0 m1 n1).trans y0; have q1 := (t4.cells.1 _ 1 m1 n1).trans y1; have q2 := (t4.cells.1 _ 2 m1 n1).trans y2; clear h4 t4))
 rcases Decidable.em (so = sNone) with hs | hs
 ·have hq : so.toList = [] := by rw [hs]; exact sNone_list
  have HS := Lib.hid hs
  clear hs
  go_wp2_with fail
  refine (must_yes _ _).mono ?_
  rintro e w5 ⟨rfl, rfl⟩
  go_wp2_with fail
  go_end0
  exact FIN.out _ _ _ (HW.out.trans E3.out) H4.out T4.out (fun _ => rfl) (fun h => absurd HS.out h)
 ·have hq : ¬ so.toList = [] := ne_list hs
  have hq2 : so.toList.isEmpty = false := by cases hw : so.toList with | nil => exact absurd hw hq | cons _ _ => rfl
  have HS := Lib.hid hs
  clear hs
  go_wp2_with fail
  refine (must_no _ _).mono ?_
  rintro e w5 ⟨rfl, rfl⟩
  go_wp2_with fail
  exact ⟨rfl, FIN.out _ _ _ (HW.out.trans E3.out) H4.out T4.out (fun h => absurd h HS.out) (fun _ => rfl)⟩
end Go.Proofs.YtfagldjhibdfhaaGreatDoor
namespace Go.Proofs.YtfagldjhibdfhaaGreatDoor
open Go.RowKit
set_option linter.unusedVariables false
set_option linter.unusedSimpArgs false
structure ArgAt (w : World) (b o : Nat) (x : Vl) : Prop where
 k : w.cell? ⟨b, o, none⟩ = some (.int .i64 x.k)
 n : w.cell? ⟨b, o + 1, none⟩ = some (.int .i64 x.n)
 s : w.cell? ⟨b, o + 2, none⟩ = some (.string x.s)
theorem ArgAt.lt {w : World} {b o : Nat} {x : Vl} (h : ArgAt w b o x) : b < w.heap.size := by
 rcases Nat.lt_or_ge b w.heap.size with h1 | h1
 ·exact h1
 ·have := h.k
  simp [World.cell?, Array.getElem?_eq_none h1] at this
theorem ArgAt.of {w w' : World} {b o : Nat} {x : Vl} (h : ArgAt w b o x) (he : w'.heap[b]? = w.heap[b]?) : ArgAt w' b o x :=
 ⟨(World.cell?_of_block he).trans h.k, (World.cell?_of_block he).trans h.n, (World.cell?_of_block he).trans h.s⟩
theorem ArgAt.ext {w w' : World} {b o : Nat} {x : Vl} (h : ArgAt w b o x) (he : Ext w w') : ArgAt w' b o x := h.of (he.block b h.lt)
def DoE (w : World) (g : Nat) (tv : Value) (rs : List (Nat × Nat)) (r : Rs) (e : Ending) (w' : World) : Prop := Did r e ∧ HStep w g tv rs w' r.H
section
variable {w w1 w' : World} {g k : Nat} {tv tv' : Value} {rs rs' : List (Nat × Nat)} {r : Rs} {H' : Hp} {x : Vl} {b o : Nat}
theorem DoE.yes (h : r.w = sNone) (hs : HS w g tv rs w' tv' rs' r.H) : DoE w g tv rs r (.returned r.v.v) w' := ⟨Did.mk1 h rfl, hs.step⟩
theorem DoE.no (h : ¬ r.w = sNone) (hs : HS w g tv rs w' tv' rs' r.H) : DoE w g tv rs r (.panicked [{ v := failV r.w, recovered := false }]) w' := ⟨Did.mk0 h rfl, hs.step⟩
theorem Blk.step {t : TypeId} {cs : Array Value} (h : Blk w k t cs) (hs : HS w g tv rs w' tv' rs' H') (hn : ¬ Foot g tv rs k) : Blk w' k t cs := (hs.touch.block k h.lt hn).trans h
theorem ArgAt.step (h : ArgAt w b o x) (hs : HS w g tv rs w' tv' rs' H') (hn : ¬ Foot g tv rs b) : ArgAt w' b o x := h.of (hs.touch.block b h.lt hn)
theorem HS.notin (hs : HS w g tv rs w' tv' rs' H') (hk : k < w.heap.size) (hn : ¬ Foot g tv rs k) : ¬ Foot g tv' rs' k := fun hx => by
 rcases hs.foot k hx with h | h
 ·exact hn h
 ·omega
theorem HS.setCell (a : HS w g tv rs w' tv' rs' H') {p : Addr} (hp : w.heap.size ≤ p.block) (hn : ¬ Foot g tv' rs' p.block) (u : Value) : HS w g tv rs (w'.setCell p u) tv' rs' H' :=
  ⟨a.heap.of_heap fun k hk => Below.heap_setCell w' p u k (by rintro rfl; exact hn hk),
   ⟨a.touch.os, a.touch.tape, a.touch.output, by simpa [World.setCell] using a.touch.size, fun k hk h => (Below.heap_setCell w' p u k (by omega)).trans (a.touch.block k hk h)⟩, a.foot⟩
theorem HS.set3 (a : HS w g tv rs w' tv' rs' H') (hp : w.heap.size ≤ k) (hn : ¬ Foot g tv' rs' k) (u0 u1 u2 : Value) : HS w g tv rs (((w'.setCell ⟨k, 0, none⟩ u0).setCell ⟨k, 1, none⟩ u1).setCell ⟨k, 2, none⟩ u2) tv' rs' H' :=
 ((a.setCell (p := ⟨k, 0, none⟩) hp hn u0).setCell (p := ⟨k, 1, none⟩) hp hn u1).setCell (p := ⟨k, 2, none⟩) hp hn u2
end
theorem three {w : World} {b : Nat} {t : TypeId} {x y z : Value} (h : Blk w b t #[x, y, z]) :
  w.cell? ⟨b, 0, none⟩ = some x ∧ w.cell? ⟨b, 1, none⟩ = some y ∧ w.cell? ⟨b, 2, none⟩ = some z ∧ w.frozen? ⟨b, 0, none⟩ = false ∧ w.frozen? ⟨b, 1, none⟩ = false ∧ w.frozen? ⟨b, 2, none⟩ = false :=
 ⟨h.cell 0, h.cell 1, h.cell 2, h.frozen 0, h.frozen 1, h.frozen 2⟩
end Go.Proofs.YtfagldjhibdfhaaGreatDoor
namespace Go.Proofs
open Go.Shelf
def Tryz.keys47_ren : Go.Shelf.Ren := ⟨fun | 7 => 47 | 10 => 80 | n => n, fun | 23 => 77 | 26 => 9 | 3 => 26 | 28 => 95 | 0 => 0 | 27 => 94 | 33 => 38 | 4 => 4 | n => n, fun | n => n⟩
theorem Tryz.keys47 : Go.Proofs.SlLaysZ.n7 Tryz.prog Tryz.keys47_ren := {
 mixed := by kernel_rfl
 f7 := ⟨Tryz.f47.name, by decide, Tryz.func47.trans (congrArg some (by kernel_rfl))⟩
 f10 := ⟨Tryz.f80.name, by decide, Tryz.func80.trans (congrArg some (by kernel_rfl))⟩
 t0 := Tryz.underlying0
 a0 := Tryz.isAgg0
 z0 := Tryz.sizeOf0
 v0 := Tryz.zeroValue0
 t4 := Tryz.underlying4
 a4 := Tryz.isAgg4
 z4 := Tryz.sizeOf4
 v4 := Tryz.zeroValue4
 t23 := Tryz.underlying77
 a23 := Tryz.isAgg77
 z23 := Tryz.sizeOf77
 v23 := Tryz.zeroValue77
 t26 := Tryz.underlying9
 a26 := Tryz.isAgg9
 z26 := Tryz.sizeOf9
 v26 := Tryz.zeroValue9
 t27 := Tryz.underlying94
 a27 := Tryz.isAgg94
 z27 := Tryz.sizeOf94
 v27 := Tryz.zeroValue94
 t28 := Tryz.underlying95
 a28 := Tryz.isAgg95
 z28 := Tryz.sizeOf95
 v28 := Tryz.zeroValue95
 t33 := Tryz.underlying38
 a33 := Tryz.isAgg38
 z33 := Tryz.sizeOf38
 v33 := Tryz.zeroValue38 }
def Tryz.sorted46_ren : Go.Shelf.Ren := ⟨fun | 6 => 46 | 8 => 78 | 9 => 79 | 11 => 107 | 13 => 106 | 12 => 108 | 23 => 150 | 24 => 151 | 14 => 152 | 15 => 153 | 16 => 154 | 17 => 155 | 18 => 156 | 19 => 157 | 20 => 158 | 21 => 159 | 22 => 160 | 25 => 183 | 26 => 178 | 27 => 179 | 28 => 184 | 29 => 185 | 30 => 186 | 31 => 198 | n => n, fun | 26 => 9 | 28 => 95 | 24 => 55 | 0 => 0 | 3 => 3 | 37 => 130 | 48 => 166 | 50 => 169 | 4 => 4 | 40 => 178 | 39 => 177 | 45 => 183 | 5 => 5 | 9 => 9 | 51 => 209 | 55 => 213 | 57 => 225 | 58 => 226 | 33 => 38 | n => n, fun | n => n⟩
theorem Tryz.sorted46 : Go.Proofs.SlLaysZ.n6 Tryz.prog Tryz.sorted46_ren := {
 mixed := by kernel_rfl
 f6 := ⟨Tryz.f46.name, by decide, Tryz.func46.trans (congrArg some (by kernel_rfl))⟩
 f8 := ⟨Tryz.f78.name, by decide, Tryz.func78.trans (congrArg some (by kernel_rfl))⟩
 f11 := ⟨Tryz.f107.name, by decide, Tryz.func107.trans (congrArg some (by kernel_rfl))⟩
 t0 := Tryz.underlying0
 a0 := Tryz.isAgg0
 z0 := Tryz.sizeOf0
 v0 := Tryz.zeroValue0
 t24 := Tryz.underlying55
 a24 := Tryz.isAgg55
 z24 := Tryz.sizeOf55
 v24 := Tryz.zeroValue55
 t26 := Tryz.underlying9
 a26 := Tryz.isAgg9
 z26 := Tryz.sizeOf9
 v26 := Tryz.zeroValue9
 t28 := Tryz.underlying95
 a28 := Tryz.isAgg95
 z28 := Tryz.sizeOf95
 v28 := Tryz.zeroValue95
 i26 := by kernel_rfl }
def Tryz.sort79_ren : Go.Shelf.Ren := ⟨fun | 6 => 79 | 8 => 106 | 9 => 108 | 19 => 150 | 20 => 151 | 21 => 152 | 22 => 153 | 23 => 154 | 24 => 155 | 25 => 156 | 26 => 157 | 27 => 158 | 28 => 159 | 29 => 160 | 36 => 183 | 31 => 178 | 32 => 179 | 37 => 184 | 38 => 185 | 39 => 186 | 41 => 198 | n => n, fun | 27 => 55 | 29 => 9 | 3 => 3 | 32 => 130 | 26 => 55 | 0 => 0 | 44 => 166 | 46 => 169 | 4 => 4 | 36 => 178 | 35 => 177 | 41 => 183 | 5 => 5 | 9 => 9 | 53 => 209 | 57 => 213 | 63 => 225 | 64 => 226 | n => n, fun | n => n⟩
theorem Tryz.sort79 : Go.Proofs.SlLaysM.n6 Tryz.prog Tryz.sort79_ren := {
 mixed := by kernel_rfl
 f6 := ⟨Tryz.f79.name, by decide, Tryz.func79.trans (congrArg some (by kernel_rfl))⟩
 f8 := Tryz.func106.trans (congrArg some (by kernel_rfl))
 f9 := ⟨Tryz.f108.name, by decide, Tryz.func108.trans (congrArg some (by kernel_rfl))⟩
 f19 := Tryz.func150.trans (congrArg some (by kernel_rfl))
 f20 := Tryz.func151.trans (congrArg some (by kernel_rfl))
 f21 := ⟨Tryz.f152.name, by decide, Tryz.func152.trans (congrArg some (by kernel_rfl))⟩
 f22 := ⟨Tryz.f153.name, by decide, Tryz.func153.trans (congrArg some (by kernel_rfl))⟩
 f23 := ⟨Tryz.f154.name, by decide, Tryz.func154.trans (congrArg some (by kernel_rfl))⟩
 f24 := ⟨Tryz.f155.name, by decide, Tryz.func155.trans (congrArg some (by kernel_rfl))⟩
 f25 := ⟨Tryz.f156.name, by decide, Tryz.func156.trans (congrArg some (by kernel_rfl))⟩
 f26 := ⟨Tryz.f157.name, by decide, Tryz.func157.trans (congrArg some (by kernel_rfl))⟩
 f27 := ⟨Tryz.f158.name, by decide, Tryz.func158.trans (congrArg some (by kernel_rfl))⟩
 f28 := ⟨Tryz.f159.name, by decide, Tryz.func159.trans (congrArg some (by kernel_rfl))⟩
 f29 := ⟨Tryz.f160.name, by decide, Tryz.func160.trans (congrArg some (by kernel_rfl))⟩
 f31 := Tryz.func178.trans (congrArg some (by kernel_rfl))
 f32 := Tryz.func179.trans (congrArg some (by kernel_rfl))
 f36 := ⟨Tryz.f183.name, by decide, Tryz.func183.trans (congrArg some (by kernel_rfl))⟩
 f37 := ⟨Tryz.f184.name, by decide, Tryz.func184.trans (congrArg some (by kernel_rfl))⟩
 f38 := ⟨Tryz.f185.name, by decide, Tryz.func185.trans (congrArg some (by kernel_rfl))⟩
 f39 := ⟨Tryz.f186.name, by decide, Tryz.func186.trans (congrArg some (by kernel_rfl))⟩
 f41 := ⟨Tryz.f198.name, by decide, Tryz.func198.trans (congrArg some (by kernel_rfl))⟩
 t0 := Tryz.underlying0
 a0 := Tryz.isAgg0
 z0 := Tryz.sizeOf0
 v0 := Tryz.zeroValue0
 t3 := Tryz.underlying3
 a3 := Tryz.isAgg3
 z3 := Tryz.sizeOf3
 v3 := Tryz.zeroValue3
 t4 := Tryz.underlying4
 a4 := Tryz.isAgg4
 z4 := Tryz.sizeOf4
 v4 := Tryz.zeroValue4
 t5 := Tryz.underlying5
 a5 := Tryz.isAgg5
 z5 := Tryz.sizeOf5
 v5 := Tryz.zeroValue5
 t9 := Tryz.underlying9
 a9 := Tryz.isAgg9
 z9 := Tryz.sizeOf9
 v9 := Tryz.zeroValue9
 t26 := Tryz.underlying55
 a26 := Tryz.isAgg55
 z26 := Tryz.sizeOf55
 v26 := Tryz.zeroValue55
 t27 := Tryz.underlying55
 a27 := Tryz.isAgg55
 z27 := Tryz.sizeOf55
 v27 := Tryz.zeroValue55
 t29 := Tryz.underlying9
 a29 := Tryz.isAgg9
 z29 := Tryz.sizeOf9
 v29 := Tryz.zeroValue9
 t32 := Tryz.underlying130
 a32 := Tryz.isAgg130
 z32 := Tryz.sizeOf130
 v32 := Tryz.zeroValue130
 t35 := Tryz.underlying177
 a35 := Tryz.isAgg177
 z35 := Tryz.sizeOf177
 v35 := Tryz.zeroValue177
 t36 := Tryz.underlying178
 a36 := Tryz.isAgg178
 z36 := Tryz.sizeOf178
 v36 := Tryz.zeroValue178
 t41 := Tryz.underlying183
 a41 := Tryz.isAgg183
 z41 := Tryz.sizeOf183
 v41 := Tryz.zeroValue183
 t44 := Tryz.underlying166
 a44 := Tryz.isAgg166
 z44 := Tryz.sizeOf166
 v44 := Tryz.zeroValue166
 t46 := Tryz.underlying169
 a46 := Tryz.isAgg169
 z46 := Tryz.sizeOf169
 v46 := Tryz.zeroValue169
 t53 := Tryz.underlying209
 a53 := Tryz.isAgg209
 z53 := Tryz.sizeOf209
 v53 := Tryz.zeroValue209
 t57 := Tryz.underlying213
 a57 := Tryz.isAgg213
 z57 := Tryz.sizeOf213
 v57 := Tryz.zeroValue213
 t63 := Tryz.underlying225
 a63 := Tryz.isAgg225
 z63 := Tryz.sizeOf225
 v63 := Tryz.zeroValue225
 t64 := Tryz.underlying226
 a64 := Tryz.isAgg226
 z64 := Tryz.sizeOf226
 v64 := Tryz.zeroValue226 }
def Tryz.keys45_ren : Go.Shelf.Ren := ⟨fun | 7 => 45 | 10 => 77 | n => n, fun | 23 => 76 | 26 => 2 | 3 => 26 | 28 => 91 | 0 => 0 | 27 => 90 | 33 => 115 | 4 => 4 | n => n, fun | n => n⟩
theorem Tryz.keys45 : Go.Proofs.SlLaysZI.n7 Tryz.prog Tryz.keys45_ren := {
 mixed := by kernel_rfl
 f7 := ⟨Tryz.f45.name, by decide, Tryz.func45.trans (congrArg some (by kernel_rfl))⟩
 f10 := ⟨Tryz.f77.name, by decide, Tryz.func77.trans (congrArg some (by kernel_rfl))⟩
 t0 := Tryz.underlying0
 a0 := Tryz.isAgg0
 z0 := Tryz.sizeOf0
 v0 := Tryz.zeroValue0
 t4 := Tryz.underlying4
 a4 := Tryz.isAgg4
 z4 := Tryz.sizeOf4
 v4 := Tryz.zeroValue4
 t23 := Tryz.underlying76
 a23 := Tryz.isAgg76
 z23 := Tryz.sizeOf76
 v23 := Tryz.zeroValue76
 t26 := Tryz.underlying2
 a26 := Tryz.isAgg2
 z26 := Tryz.sizeOf2
 v26 := Tryz.zeroValue2
 t27 := Tryz.underlying90
 a27 := Tryz.isAgg90
 z27 := Tryz.sizeOf90
 v27 := Tryz.zeroValue90
 t28 := Tryz.underlying91
 a28 := Tryz.isAgg91
 z28 := Tryz.sizeOf91
 v28 := Tryz.zeroValue91
 t33 := Tryz.underlying115
 a33 := Tryz.isAgg115
 z33 := Tryz.sizeOf115
 v33 := Tryz.zeroValue115 }
def Tryz.sorted44_ren : Go.Shelf.Ren := ⟨fun | 6 => 44 | 8 => 75 | 9 => 76 | 11 => 104 | 13 => 106 | 12 => 105 | 23 => 150 | 24 => 151 | 14 => 141 | 15 => 142 | 16 => 143 | 17 => 144 | 18 => 145 | 19 => 146 | 20 => 147 | 21 => 148 | 22 => 149 | 25 => 177 | 26 => 178 | 27 => 179 | 28 => 180 | 29 => 181 | 30 => 182 | 31 => 197 | n => n, fun | 26 => 2 | 28 => 91 | 24 => 60 | 0 => 0 | 3 => 3 | 37 => 130 | 48 => 166 | 50 => 169 | 4 => 4 | 40 => 178 | 39 => 177 | 45 => 183 | 5 => 5 | 9 => 9 | 51 => 209 | 55 => 213 | 57 => 225 | 58 => 226 | 33 => 115 | n => n, fun | n => n⟩
theorem Tryz.sorted44 : Go.Proofs.SlLaysZI.n6 Tryz.prog Tryz.sorted44_ren := {
 mixed := by kernel_rfl
 f6 := ⟨Tryz.f44.name, by decide, Tryz.func44.trans (congrArg some (by kernel_rfl))⟩
 f8 := ⟨Tryz.f75.name, by decide, Tryz.func75.trans (congrArg some (by kernel_rfl))⟩
 f11 := ⟨Tryz.f104.name, by decide, Tryz.func104.trans (congrArg some (by kernel_rfl))⟩
 t0 := Tryz.underlying0
 a0 := Tryz.isAgg0
 z0 := Tryz.sizeOf0
 v0 := Tryz.zeroValue0
 t24 := Tryz.underlying60
 a24 := Tryz.isAgg60
 z24 := Tryz.sizeOf60
 v24 := Tryz.zeroValue60
 t26 := Tryz.underlying2
 a26 := Tryz.isAgg2
 z26 := Tryz.sizeOf2
 v26 := Tryz.zeroValue2
 t28 := Tryz.underlying91
 a28 := Tryz.isAgg91
 z28 := Tryz.sizeOf91
 v28 := Tryz.zeroValue91
 i26 := by kernel_rfl }
def Tryz.sort76_ren : Go.Shelf.Ren := ⟨fun | 5 => 76 | 8 => 106 | 7 => 105 | 19 => 150 | 20 => 151 | 10 => 141 | 11 => 142 | 12 => 143 | 13 => 144 | 14 => 145 | 15 => 146 | 16 => 147 | 17 => 148 | 18 => 149 | 30 => 177 | 31 => 178 | 32 => 179 | 33 => 180 | 34 => 181 | 35 => 182 | 40 => 197 | n => n, fun | 23 => 60 | 25 => 2 | 3 => 3 | 32 => 130 | 22 => 60 | 0 => 0 | 44 => 166 | 46 => 169 | 4 => 4 | 36 => 178 | 35 => 177 | 41 => 183 | 5 => 5 | 9 => 9 | 53 => 209 | 57 => 213 | 63 => 225 | 64 => 226 | n => n, fun | n => n⟩
theorem Tryz.sort76 : Go.Proofs.SlLaysM.n5 Tryz.prog Tryz.sort76_ren := {
 mixed := by kernel_rfl
 f5 := ⟨Tryz.f76.name, by decide, Tryz.func76.trans (congrArg some (by kernel_rfl))⟩
 f7 := ⟨Tryz.f105.name, by decide, Tryz.func105.trans (congrArg some (by kernel_rfl))⟩
 f8 := Tryz.func106.trans (congrArg some (by kernel_rfl))
 f10 := ⟨Tryz.f141.name, by decide, Tryz.func141.trans (congrArg some (by kernel_rfl))⟩
 f11 := ⟨Tryz.f142.name, by decide, Tryz.func142.trans (congrArg some (by kernel_rfl))⟩
 f12 := ⟨Tryz.f143.name, by decide, Tryz.func143.trans (congrArg some (by kernel_rfl))⟩
 f13 := ⟨Tryz.f144.name, by decide, Tryz.func144.trans (congrArg some (by kernel_rfl))⟩
 f14 := ⟨Tryz.f145.name, by decide, Tryz.func145.trans (congrArg some (by kernel_rfl))⟩
 f15 := ⟨Tryz.f146.name, by decide, Tryz.func146.trans (congrArg some (by kernel_rfl))⟩
 f16 := ⟨Tryz.f147.name, by decide, Tryz.func147.trans (congrArg some (by kernel_rfl))⟩
 f17 := ⟨Tryz.f148.name, by decide, Tryz.func148.trans (congrArg some (by kernel_rfl))⟩
 f18 := ⟨Tryz.f149.name, by decide, Tryz.func149.trans (congrArg some (by kernel_rfl))⟩
 f19 := Tryz.func150.trans (congrArg some (by kernel_rfl))
 f20 := Tryz.func151.trans (congrArg some (by kernel_rfl))
 f30 := ⟨Tryz.f177.name, by decide, Tryz.func177.trans (congrArg some (by kernel_rfl))⟩
 f31 := Tryz.func178.trans (congrArg some (by kernel_rfl))
 f32 := Tryz.func179.trans (congrArg some (by kernel_rfl))
 f33 := ⟨Tryz.f180.name, by decide, Tryz.func180.trans (congrArg some (by kernel_rfl))⟩
 f34 := ⟨Tryz.f181.name, by decide, Tryz.func181.trans (congrArg some (by kernel_rfl))⟩
 f35 := ⟨Tryz.f182.name, by decide, Tryz.func182.trans (congrArg some (by kernel_rfl))⟩
 f40 := ⟨Tryz.f197.name, by decide, Tryz.func197.trans (congrArg some (by kernel_rfl))⟩
 t0 := Tryz.underlying0
 a0 := Tryz.isAgg0
 z0 := Tryz.sizeOf0
 v0 := Tryz.zeroValue0
 t3 := Tryz.underlying3
 a3 := Tryz.isAgg3
 z3 := Tryz.sizeOf3
 v3 := Tryz.zeroValue3
 t4 := Tryz.underlying4
 a4 := Tryz.isAgg4
 z4 := Tryz.sizeOf4
 v4 := Tryz.zeroValue4
 t5 := Tryz.underlying5
 a5 := Tryz.isAgg5
 z5 := Tryz.sizeOf5
 v5 := Tryz.zeroValue5
 t9 := Tryz.underlying9
 a9 := Tryz.isAgg9
 z9 := Tryz.sizeOf9
 v9 := Tryz.zeroValue9
 t22 := Tryz.underlying60
 a22 := Tryz.isAgg60
 z22 := Tryz.sizeOf60
 v22 := Tryz.zeroValue60
 t23 := Tryz.underlying60
 a23 := Tryz.isAgg60
 z23 := Tryz.sizeOf60
 v23 := Tryz.zeroValue60
 t25 := Tryz.underlying2
 a25 := Tryz.isAgg2
 z25 := Tryz.sizeOf2
 v25 := Tryz.zeroValue2
 t32 := Tryz.underlying130
 a32 := Tryz.isAgg130
 z32 := Tryz.sizeOf130
 v32 := Tryz.zeroValue130
 t35 := Tryz.underlying177
 a35 := Tryz.isAgg177
 z35 := Tryz.sizeOf177
 v35 := Tryz.zeroValue177
 t36 := Tryz.underlying178
 a36 := Tryz.isAgg178
 z36 := Tryz.sizeOf178
 v36 := Tryz.zeroValue178
 t41 := Tryz.underlying183
 a41 := Tryz.isAgg183
 z41 := Tryz.sizeOf183
 v41 := Tryz.zeroValue183
 t44 := Tryz.underlying166
 a44 := Tryz.isAgg166
 z44 := Tryz.sizeOf166
 v44 := Tryz.zeroValue166
 t46 := Tryz.underlying169
 a46 := Tryz.isAgg169
 z46 := Tryz.sizeOf169
 v46 := Tryz.zeroValue169
 t53 := Tryz.underlying209
 a53 := Tryz.isAgg209
 z53 := Tryz.sizeOf209
 v53 := Tryz.zeroValue209
 t57 := Tryz.underlying213
 a57 := Tryz.isAgg213
 z57 := Tryz.sizeOf213
 v57 := Tryz.zeroValue213
 t63 := Tryz.underlying225
 a63 := Tryz.isAgg225
 z63 := Tryz.sizeOf225
 v63 := Tryz.zeroValue225
 t64 := Tryz.underlying226
 a64 := Tryz.isAgg226
 z64 := Tryz.sizeOf226
 v64 := Tryz.zeroValue226 }
end Go.Proofs
namespace Go.Proofs.YtfagldjhibdfhaaGreatDoor
open Go.RowKit
set_option linter.unusedVariables false
set_option linter.unusedSimpArgs false

def leK (a b : Vl) : Bool := decide (a.k < b.k) || decide (a.k = b.k) && (if a.k = 2 then decide (a.n ≤ b.n) else decide (a.s.data.toList ≤ b.s.data.toList))
theorem leK_antisymm {a b : Vl} (ha : KOk a) (hb : KOk b) (h : leK a b = true) (k : leK b a = true) : a = b := by
 unfold leK at *
 simp only [Bool.or_eq_true, Bool.and_eq_true, decide_eq_true_eq] at h k
 have e : a.k = b.k := by omega
 rcases h with h | ⟨_, h⟩
 ·omega
 rcases k with k | ⟨_, k⟩
 ·omega
 rcases ha.form with ⟨a2, ea⟩ | ⟨a3, ea⟩
 ·rcases hb.form with ⟨b2, eb⟩ | ⟨b3, eb⟩
  ·rw [if_pos a2] at h
   rw [if_pos b2] at k
   simp only [decide_eq_true_eq] at h k
   rw [ea, eb]
   congr 1
   omega
  ·omega
 ·rcases hb.form with ⟨b2, eb⟩ | ⟨b3, eb⟩
  ·omega
  ·rw [if_neg (by omega)] at h k
   simp only [decide_eq_true_eq] at h k
   have := List.le_antisymm h k
   rw [ea, eb, ← ba_eta a.s, ← ba_eta b.s, this]
theorem keysL_sorted (T : Tb) : (keysL T).Pairwise fun a b => leK a b = true := by
 unfold keysL
 rw [List.pairwise_append, List.pairwise_map, List.pairwise_map]
 refine ⟨?_, ?_, fun a ha b hb => ?_⟩
 ·refine (List.pairwise_mergeSort (fun a b c h k => ?_) (fun a b => ?_) _).imp ?_
  ·simp only [decide_eq_true_eq] at *; omega
  ·simp only [Bool.or_eq_true, decide_eq_true_eq]; omega
  ·intro a b h
   simp only [decide_eq_true_eq] at h
   simp [leK, iK, h]
 ·refine (List.pairwise_mergeSort (fun a b c h k => ?_) (fun a b => ?_) _).imp ?_
  ·simp only [decide_eq_true_eq] at *; exact List.le_trans h k
  ·simp only [Bool.or_eq_true, decide_eq_true_eq]; exact List.le_total a b
  ·intro a b h
   simp only [decide_eq_true_eq] at h
   simp [leK, tK, h]
 ·obtain ⟨n, _, rfl⟩ := List.mem_map.1 ha
  obtain ⟨s, _, rfl⟩ := List.mem_map.1 hb
  simp [leK, iK, tK]
theorem keysL_mem {T : Tb} (h : TbOk T) (k : Vl) : k ∈ keysL T ↔ k ∈ T.map (·.1) := by
 unfold keysL
 rw [List.mem_append, List.mem_map, List.mem_map]
 have hk : k ∈ T.map (·.1) ↔ ¬ mget T k = none := by rw [mget_mem, Classical.not_not]
 rw [hk]
 constructor
 ·rintro (⟨n, hn, rfl⟩ | ⟨l, hl, rfl⟩)
  ·exact (mem_ints h n).1 ((List.mergeSort_perm _ _).mem_iff.1 hn)
  ·exact (mem_texts h l).1 ((List.mergeSort_perm _ _).mem_iff.1 hl)
 ·intro hm
  obtain ⟨x, hx, rfl⟩ := List.mem_map.1 (hk.2 hm)
  rcases (h.key x hx).form with ⟨_, e⟩ | ⟨_, e⟩
  ·rw [e] at hm ⊢
   exact .inl ⟨_, (List.mergeSort_perm _ _).mem_iff.2 ((mem_ints h _).2 hm), rfl⟩
  ·rw [e] at hm ⊢
   refine .inr ⟨x.1.s.data.toList, (List.mergeSort_perm _ _).mem_iff.2 ((mem_texts h _).2 (by rw [ba_eta]; exact hm)), by rw [ba_eta]⟩
theorem keysL_perm {T : Tb} (h : TbOk T) : (keysL T).Perm (T.map (·.1)) := by
 have hn : (keysL T).Nodup := by
  unfold keysL
  rw [List.nodup_append]
  refine ⟨?_, ?_, ?_⟩
  ·exact List.pairwise_map.2 (((List.mergeSort_perm _ _).nodup_iff.2 (ints_nodup h)).imp fun hab e => hab (iK_inj e))
  ·refine List.pairwise_map.2 (((List.mergeSort_perm _ _).nodup_iff.2 (texts_nodup h)).imp fun hab e => hab ?_)
   have := congrArg (fun s : ByteArray => s.data.toList) (tK_inj e)
   simpa using this
  ·intro a ha b hb e
   obtain ⟨n, _, rfl⟩ := List.mem_map.1 ha
   obtain ⟨s, _, rfl⟩ := List.mem_map.1 hb
   exact iK_tK _ _ e
 exact (List.perm_ext_iff_of_nodup hn h.once).2 fun k => keysL_mem h k
theorem keysL_len {T : Tb} (h : TbOk T) : (keysL T).length = T.length := by rw [(keysL_perm h).length_eq, List.length_map]
theorem keysL_ok {T : Tb} (h : TbOk T) : ∀ k ∈ keysL T, KOk k := by
 intro k hk
 obtain ⟨x, hx, rfl⟩ := List.mem_map.1 ((keysL_mem h k).1 hk)
 exact h.key x hx
end Go.Proofs.YtfagldjhibdfhaaGreatDoor
namespace Go.Proofs.YtfagldjhibdfhaaGreatDoor
open Go.RowKit Go.Maps Go.Sort Go.Shelf
set_option linter.unusedVariables false
set_option linter.unusedSimpArgs false

theorem sortsT (m : Nat) : AnyZ.SortsIn Tryz.prog Tryz.sorted46_ren Fence.wide m :=
  ⟨fun blk off cap ss W hH hblk hsz => callsIn_wide.2 (AnyM.slices_Sort_string Tryz.sort79 blk off cap ss W hH hblk hsz),
   fun p cap W => callsIn_wide.2 (AnyM.slices_Sort_string_none Tryz.sort79 p cap W)⟩
theorem mapsKeys_T (mb : Option Nat) (W : World) : CallsIn Fence.wide 5 Tryz.prog 47 #[.map mb] W fun e w' => e = .returned (.func (.func 80) #[] #[.pointer (some ⟨W.heap.size, 0, none⟩)]) ∧ w' = W.alloc (.cells #[.map mb] 77) :=
 AnyZ.keys_in Tryz.keys47 Fence.wide 5 trivial rfl mb W
set_option maxHeartbeats 1000000 in
theorem sorted_keysT {H : Type} (b nn : Nat) (D0 : DataW H) (R : Value → Option (DataW H × List MemPlace)) (w : World) (hown : w.ownsMap Tryz.prog 9 R b nn D0) (hmax : Maps.size D0 ≤ maxLen) (hbytes : Maps.size D0 * 16 ≤ 140737488355328) :
  CallsIn Fence.wide 5 Tryz.prog 46 #[.func (.func 80) #[] #[.pointer (some ⟨w.heap.size, 0, none⟩)]] (w.alloc (.cells #[.map (some b)] 77)) fun e w' => ∃ (v : Value) (ss : List (List UInt8)), e = .returned v ∧ ss.Perm (strKeys D0) ∧
   w'.ownsRow (w.alloc (.cells #[.map (some b)] 77)).heap.size 9 1 v ss.length ((ss.mergeSort (fun x y => decide (x ≤ y))).map encStr) ∧ (v = .slice none 0 0 ↔ ss = []) ∧ Below (w.alloc (.cells #[.map (some b)] 77)).heap.size (w.alloc (.cells #[.map (some b)] 77)) w' := by
 have hbl := hown.lt
 have hseq : SeqGives Fence.wide 2 Tryz.prog 80 #[.pointer (some ⟨w.heap.size, 0, none⟩)] encStr (fun ss => ss.Perm (strKeys D0)) (Maps.size D0) (w.alloc (.cells #[.map (some b)] 77)) :=
  AnyZ.keys_gives (ρ := Tryz.keys47_ren) { Tryz.keys47 with } Fence.wide _ trivial rfl (by omega) w.heap.size b nn D0 _ (by simp) (by simp) (by
   obtain ⟨es, clock, hb, Ft, hs, hD⟩ := hown
   exact ⟨es, clock, (Below.heap_alloc _ _ b hbl).trans hb, Ft, hs, hD⟩)
 exact AnyZ.sorted_in Tryz.sorted46 Fence.wide 5 trivial trivial trivial trivial rfl (by omega) (sortsT _) (enters_of Tryz.func79 (by kernel_rfl) rfl) 80 #[.pointer (some ⟨w.heap.size, 0, none⟩)] trivial (enters_of Tryz.func80 (by kernel_rfl) rfl) _ _ hmax hbytes _ hseq
theorem sortsI (m : Nat) : AnyZI.SortsIn Tryz.prog Tryz.sorted44_ren Fence.wide m :=
  ⟨fun blk off cap ss W hH hblk hsz => callsIn_wide.2 (AnyM.slices_Sort_int Tryz.sort76 blk off cap ss W hH hblk hsz),
   fun p cap W => callsIn_wide.2 (AnyM.slices_Sort_int_none Tryz.sort76 p cap W)⟩
theorem mapsKeys_I (mb : Option Nat) (W : World) : CallsIn Fence.wide 5 Tryz.prog 45 #[.map mb] W fun e w' => e = .returned (.func (.func 77) #[] #[.pointer (some ⟨W.heap.size, 0, none⟩)]) ∧ w' = W.alloc (.cells #[.map mb] 76) :=
 AnyZI.keys_in Tryz.keys45 Fence.wide 5 trivial rfl mb W
set_option maxHeartbeats 1000000 in
theorem sorted_keysI {H : Type} (b nn : Nat) (D0 : DataW H) (R : Value → Option (DataW H × List MemPlace)) (w : World) (hown : w.ownsMap Tryz.prog 2 R b nn D0) (hmax : Maps.size D0 ≤ maxLen) (hbytes : Maps.size D0 * 8 ≤ 140737488355328) :
  CallsIn Fence.wide 5 Tryz.prog 44 #[.func (.func 77) #[] #[.pointer (some ⟨w.heap.size, 0, none⟩)]] (w.alloc (.cells #[.map (some b)] 76)) fun e w' => ∃ (v : Value) (ss : List Int), e = .returned v ∧ ss.Perm (intKeys D0) ∧
   w'.ownsRow (w.alloc (.cells #[.map (some b)] 76)).heap.size 2 1 v ss.length ((ss.mergeSort (fun x y => decide (x ≤ y))).map encZ) ∧ (v = .slice none 0 0 ↔ ss = []) ∧ Below (w.alloc (.cells #[.map (some b)] 76)).heap.size (w.alloc (.cells #[.map (some b)] 76)) w' := by
 have hbl := hown.lt
 have hseq : SeqGives Fence.wide 2 Tryz.prog 77 #[.pointer (some ⟨w.heap.size, 0, none⟩)] encZ (fun ss => ss.Perm (intKeys D0)) (Maps.size D0) (w.alloc (.cells #[.map (some b)] 76)) :=
  AnyZI.keys_gives (ρ := Tryz.keys45_ren) { Tryz.keys45 with } Fence.wide _ trivial rfl (by omega) w.heap.size b nn D0 _ (by simp) (by simp) (by
   obtain ⟨es, clock, hb, Ft, hs, hD⟩ := hown
   exact ⟨es, clock, (Below.heap_alloc _ _ b hbl).trans hb, Ft, hs, hD⟩)
 exact AnyZI.sorted_in Tryz.sorted44 Fence.wide 5 trivial trivial trivial trivial rfl (by omega) (sortsI _) (enters_of Tryz.func76 (by kernel_rfl) rfl) 77 #[.pointer (some ⟨w.heap.size, 0, none⟩)] trivial (enters_of Tryz.func77 (by kernel_rfl) rfl) _ _ hmax hbytes _ hseq
abbrev anyR : Value → Option (DataW Unit × List MemPlace) := fun _ => some (.lit (.bool true), [])
theorem own_keys {κ : Type} [DecidableEq κ] {w : World} {r : Nat} {enc : κ → Value} {K : TypeId} {lit : κ → Lit} {m : List (κ × Value)} (h : IsMap enc w r m) (hk : ∀ x ∈ m, keyOf Tryz.prog K (enc x.1) = some (lit x.1)) (hl : m.length ≤ maxLen) :
  ∃ n es, w.ownsMap Tryz.prog K anyR r n (.map es) ∧ (es.map (·.1)).Perm (m.map fun x => lit x.1) ∧ Maps.size (.map es : DataW Unit) = m.length := by
 obtain ⟨es, c, hb, h2, hst⟩ := h
 have hsz : es.size = m.length := by
  have := congrArg List.length h2
  simpa [pairs, encs] using this
 have hmap : ∀ (l : List MapEntry) (m : List (κ × Value)), pairs l = encs enc m → (∀ x ∈ m, keyOf Tryz.prog K (enc x.1) = some (lit x.1)) →
   (∀ x ∈ l, ∃ y, WideElems.rd Tryz.prog K anyR x = some y) ∧ (l.map (WideElems.rg Tryz.prog K anyR)).map (·.1) = m.map fun x => lit x.1 := by
  intro l
  induction l with
  | nil => intro m h _; cases m with
   | nil => exact ⟨fun x hx => (List.not_mem_nil hx).elim, rfl⟩
   | cons y m => simp [pairs, encs] at h
  | cons e l ih =>
   intro m h hk
   cases m with
   | nil => simp [pairs, encs] at h
   | cons y m =>
    simp only [pairs, encs, List.map_cons, List.cons.injEq, Prod.mk.injEq] at h
    obtain ⟨i1, i2⟩ := ih m h.2 (fun x hx => hk x (List.mem_cons_of_mem _ hx))
    have hrd : WideElems.rd Tryz.prog K anyR e = some (lit y.1, .lit (.bool true)) := by
     unfold WideElems.rd
     rw [h.1.1, hk y List.mem_cons_self]
     rfl
    refine ⟨fun x hx => ?_, ?_⟩
    ·rcases List.mem_cons.1 hx with rfl | hx
     ·exact ⟨_, hrd⟩
     ·exact i1 x hx
    ·rw [List.map_cons, List.map_cons, List.map_cons, i2]
     unfold WideElems.rg
     rw [hrd]
     rfl
 obtain ⟨r1, r2⟩ := hmap es.toList m h2 hk
 refine ⟨es.size, (es.toList.map (WideElems.rg Tryz.prog K anyR)).foldr DataW.insert [], ⟨es, c, hb, ⟨by rw [hsz]; exact hl, hst, r1⟩, Nat.le_refl _, rfl⟩, ?_, ?_⟩
 ·refine (List.Perm.map _ (WideShapes.sorted_perm _)).trans ?_
  rw [r2]
 ·show ((es.toList.map (WideElems.rg Tryz.prog K anyR)).foldr DataW.insert []).length = _
  rw [(WideShapes.sorted_perm _).length_eq, List.length_map, ← hsz]
  simp
theorem own_i {w : World} {r : Nat} {mi : List (Int × Vl)} (h : IsMap iKey w r (mmap Vl.v mi)) (hk : ∀ x ∈ mi, in64 x.1) (hl : mi.length ≤ maxLen) :
  ∃ n D0, w.ownsMap Tryz.prog 2 anyR r n D0 ∧ (intKeys D0).Perm (mi.map (·.1)) ∧ Maps.size D0 = mi.length := by
 obtain ⟨n, es, h1, h2, h3⟩ := own_keys (K := 2) (lit := fun n => Lit.int .i64 n) h (fun x hx => by
  obtain ⟨y, hy, rfl⟩ := List.mem_map.1 hx
  have := hk y hy
  unfold in64 at this
  simp only [keyOf, mapKey, Tryz.underlying2]
  have hw : (Lit.int .i64 y.1).wf = true := by
   unfold Lit.wf
   rw [Bool.and_eq_true, decide_eq_true_eq, decide_eq_true_eq]
   exact ⟨this.1, this.2⟩
  rw [if_pos ⟨trivial, hw⟩]) (by simpa [mmap] using hl)
 refine ⟨n, .map es, h1, ?_, by simpa [mmap] using h3⟩
 have := h2.map (fun l : Lit => match l with | .int _ n => n | _ => 0)
 have e : (es.map (·.1)).map (fun l : Lit => match l with | .int _ n => n | _ => 0) = intKeys (.map es) := by
  rw [List.map_map]
  rfl
 rw [e] at this
 simpa [mmap, List.map_map, Function.comp_def] using this
theorem own_t {w : World} {r : Nat} {mt : List (ByteArray × Vl)} (h : IsMap Value.string w r (mmap Vl.v mt)) (hk : ∀ x ∈ mt, x.1.size ≤ maxLen) (hl : mt.length ≤ maxLen) :
  ∃ n D0, w.ownsMap Tryz.prog 9 anyR r n D0 ∧ (strKeys D0).Perm (mt.map fun x => x.1.data.toList) ∧ Maps.size D0 = mt.length := by
 obtain ⟨n, es, h1, h2, h3⟩ := own_keys (K := 9) (lit := fun s : ByteArray => Lit.string s.data.toList) h (fun x hx => by
  obtain ⟨y, hy, rfl⟩ := List.mem_map.1 hx
  simp only [keyOf, mapKey, Tryz.underlying9]
  rw [if_pos (hk y hy)]) (by simpa [mmap] using hl)
 refine ⟨n, .map es, h1, ?_, by simpa [mmap] using h3⟩
 have := h2.map strOf
 simpa [strKeys, mmap, List.map_map, Function.comp_def, strOf] using this
end Go.Proofs.YtfagldjhibdfhaaGreatDoor
