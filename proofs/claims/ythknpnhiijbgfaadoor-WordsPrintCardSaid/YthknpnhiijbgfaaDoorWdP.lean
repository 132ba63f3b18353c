/- Words, the plain law: what a text's words are; what words are as a text. -/
import Derived.Test.YthknpnhiijbgfaaDoorBase
import Derived.Lib.ItoaNum
namespace Go.Proofs.YthknpnhiijbgfaaDoor
open Go.Lib
set_option linter.unusedVariables false
set_option linter.unusedSimpArgs false

/-- Kinds of bytes. -/
def letB (c : UInt8) : Bool := (decide (97 ≤ c.toNat) && decide (c.toNat ≤ 122)) || (decide (65 ≤ c.toNat) && decide (c.toNat ≤ 90)) || decide (c.toNat = 95)
def digB (c : UInt8) : Bool := decide (48 ≤ c.toNat) && decide (c.toNat ≤ 57)
def wrdB (c : UInt8) : Bool := letB c || digB c
def blkB (c : UInt8) : Bool := decide (c.toNat = 32) || decide (c.toNat = 9) || decide (c.toNat = 10) || decide (c.toNat = 13)
def headB (p : UInt8 → Bool) : List UInt8 → Bool
  | [] => false
  | c :: _ => p c
/-- The words of the language, and the signs. -/
def keyL : List (List UInt8) := [[97, 110, 100], [98, 114, 101, 97, 107], [100, 111], [101, 108, 115, 101], [101, 108, 115, 101, 105, 102], [101, 110, 100], [102, 97, 108, 115, 101], [102, 111, 114], [102, 117, 110, 99, 116, 105, 111, 110], [105, 102], [105, 110], [108, 111, 99, 97, 108], [110, 105, 108], [110, 111, 116], [111, 114], [114, 101, 116, 117, 114, 110], [116, 104, 101, 110], [116, 114, 117, 101], [119, 104, 105, 108, 101]]
def signL : List (List UInt8) := [[61, 61], [126, 61], [60, 61], [62, 61], [46, 46], [43], [45], [42], [47], [37], [35], [60], [62], [61], [40], [41], [123], [125], [91], [93], [59], [58], [44], [46]]
def keyB (s : List UInt8) : Bool := keyL.any fun x => x == s
def signB (s : List UInt8) : Bool := signL.any fun x => x == s
/-- How many bytes of blanks and comments stand ahead (true: within a comment). -/
def blankS : Bool → List UInt8 → Nat
  | _, [] => 0
  | true, c :: l => if c.toNat = 10 then blankS false l + 1 else blankS true l + 1
  | false, c :: l => if blkB c = true then blankS false l + 1 else if c.toNat = 45 ∧ (l.head?.map (·.toNat)) = some 45 then blankS true l + 1 else 0
/-- What is meant behind a backslash, and how many bytes tell it. -/
def escP : List UInt8 → Option (UInt8 × Nat)
  | [] => none
  | c :: l =>
    if c.toNat = 110 then some (10, 1) else if c.toNat = 116 then some (9, 1) else if c.toNat = 114 then some (13, 1)
    else if c.toNat = 92 ∨ c.toNat = 39 ∨ c.toNat = 34 then some (c, 1)
    else match l with
      | d :: e :: _ => if digB c = true ∧ digB d = true ∧ digB e = true then
          (if 100 * (c.toNat - 48) + 10 * (d.toNat - 48) + (e.toNat - 48) ≤ 255 then some (UInt8.ofNat (100 * (c.toNat - 48) + 10 * (d.toNat - 48) + (e.toNat - 48)), 3) else none) else none
      | _ => none
/-- A text that ends with a sign: its bytes, and how many tell it, the end's too. -/
def textP (q : UInt8) : List UInt8 → Option (List UInt8 × Nat)
  | [] => none
  | c :: l => if c = q then some ([], 1) else if c.toNat = 10 then none else if c.toNat = 92 then
      (match escP l with
       | none => none
       | some (b, n) => (textP q (l.drop n)).map fun x => (b :: x.1, x.2 + (n + 1)))
    else (textP q l).map fun x => (c :: x.1, x.2 + 1)
termination_by l => l.length
decreasing_by all_goals (simp only [List.length_drop, List.length_cons]; omega)
/-- How many letters, digits, _ stand ahead. -/
def runP : List UInt8 → Nat
  | [] => 0
  | c :: l => if wrdB c = true then runP l + 1 else 0
def nameP (l : List UInt8) : Bool := !l.isEmpty && decide (l.length ≤ 64) && headB letB l && !keyB l && l.all wrdB
def decVal : List UInt8 → Nat → Nat
  | [], n => n
  | c :: l, n => decVal l (10 * n + (c.toNat - 48))
def numP (l : List UInt8) : Option Nat := if l.all digB = true ∧ decVal l 0 ≤ 9223372036854775807 then some (decVal l 0) else none
/-- A word. -/
structure Wd where
  k : Int
  t : List UInt8
  n : Int
  a : Int
deriving DecidableEq
def preB (x l : List UInt8) : Bool := x.isPrefixOf l
/-- The word that stands ahead, and how many bytes it has: a text or a sign; any. -/
def wordQ : List UInt8 → Option (Wd × Nat)
  | [] => none
  | c :: r => if c.toNat = 39 ∨ c.toNat = 34 then (textP c r).map fun x => (⟨3, x.1, 0, 0⟩, x.2 + 1)
      else (signL.find? fun x => preB x (c :: r)).map fun x => (⟨4, x, 0, 0⟩, x.length)
def wordP (l : List UInt8) : Option (Wd × Nat) :=
  if 0 < runP l then
    (if headB letB l = true then
      (if keyB (l.take (runP l)) = true then some (⟨1, l.take (runP l), 0, 0⟩, runP l)
       else if nameP (l.take (runP l)) = true then some (⟨0, l.take (runP l), 0, 0⟩, runP l) else none)
     else (numP (l.take (runP l))).map fun (x : Nat) => ((⟨2, [], (x : Int), 0⟩ : Wd), runP l))
  else wordQ l
/-- A text's words from a place on, where one stands; or the place of the first that is none. -/
def lexP (at_ : Nat) (l : List UInt8) : Except Nat (List Wd) :=
  if h : l = [] then .ok [] else
    match wordP l with
    | none => .error at_
    | some (w, n) => (lexP (at_ + (n - 1 + 1) + blankS false (l.drop (n - 1 + 1))) (l.drop (n - 1 + 1 + blankS false (l.drop (n - 1 + 1))))).map fun x => { w with a := at_ } :: x
termination_by l.length
decreasing_by
  have : 0 < l.length := List.length_pos_iff.2 h
  simp only [List.length_drop]
  omega
def lexS (l : List UInt8) : Except Nat (List Wd) := lexP (blankS false l) (l.drop (blankS false l))
/-- A text as a word. -/
def quoB (c : UInt8) : List UInt8 :=
  if c.toNat = 10 then [92, 110] else if c.toNat = 9 then [92, 116] else if c.toNat = 13 then [92, 114]
  else if c.toNat = 39 ∨ c.toNat = 92 then [92, c]
  else if c.toNat < 32 ∨ 126 < c.toNat then [92, UInt8.ofNat (48 + c.toNat / 100), UInt8.ofNat (48 + c.toNat / 10 % 10), UInt8.ofNat (48 + c.toNat % 10)] else [c]
def quoteP (l : List UInt8) : List UInt8 := 39 :: (l.flatMap quoB ++ [39])
def mayP (w : Wd) : Bool :=
  if w.k = 0 then nameP w.t && decide (w.n = 0) else if w.k = 1 then keyB w.t && decide (w.n = 0) else if w.k = 2 then w.t.isEmpty && decide (0 ≤ w.n)
  else if w.k = 3 then decide (w.n = 0) else if w.k = 4 then signB w.t && decide (w.n = 0) else false
def toldP (w : Wd) : List UInt8 := if w.k = 2 then decDigits w.n.toNat else if w.k = 3 then quoteP w.t else w.t
/-- Words as a text: one blank between each two. -/
def joinP : List Wd → List UInt8
  | [] => []
  | [w] => toldP w
  | w :: v :: l => toldP w ++ 32 :: joinP (v :: l)
def alikeW (a b : Wd) : Bool := decide (a.k = b.k) && decide (a.t = b.t) && decide (a.n = b.n)
def alikeL : List Wd → List Wd → Bool
  | [], [] => true
  | a :: l, b :: m => alikeW a b && alikeL l m
  | _, _ => false
end Go.Proofs.YthknpnhiijbgfaaDoor
