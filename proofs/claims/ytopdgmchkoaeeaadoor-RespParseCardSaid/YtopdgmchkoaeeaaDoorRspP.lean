/- Requests and replies, told plainly: what bytes begin with. -/
namespace Go.Proofs.YtopdgmchkoaeeaaDoor
set_option linter.unusedVariables false

/-- These bytes, from a place on. -/
def skipS (l : List UInt8) : List UInt8 → Nat → Except Int Nat
  | [], p => .ok p
  | c :: s, p => if h : p < l.length then (if l[p] = c then skipS l s (p + 1) else .error 131) else .error 130
/-- A line of digits: k is at least how many bytes are left. -/
def numS (l : List UInt8) (least most : Nat) : Nat → Nat → Nat → Nat → Except Int (Nat × Nat)
  | 0, _, _, _ => .error 130
  | k + 1, many, n, p =>
    if h : p < l.length then
      if l[p].toNat = 13 ∧ 0 < many then (skipS l [10] (p + 1)).map fun q => (n, q)
      else if l[p].toNat < 48 ∨ 57 < l[p].toNat ∨ (many = 1 ∧ n = 0) ∨ (many = 0 ∧ l[p].toNat - 48 < least) then .error 131
      else if 10 * n + (l[p].toNat - 48) ≤ most then numS l least most k (many + 1) (10 * n + (l[p].toNat - 48)) (p + 1)
      else .error 131
    else .error 130
def cutS (l : List UInt8) (p n : Nat) : ByteArray := ⟨((l.drop p).take n).toArray⟩
/-- So many bytes, and the line's end. -/
def textS (l : List UInt8) (n p : Nat) : Except Int (ByteArray × Nat) :=
  if p + n ≤ l.length then (skipS l [13, 10] (p + n)).map fun q => (cutS l p n, q) else .error 130
def bulkS (l : List UInt8) (texts p : Nat) : Except Int (ByteArray × Nat) :=
  match numS l 0 texts (l.length - p) 0 0 p with
  | .ok (n, q) => textS l n q
  | .error e => .error e
/-- So many texts, each behind its sign. -/
def bulksS (l : List UInt8) : Nat → Nat → Nat → Except Int (List ByteArray × Nat)
  | 0, _, p => .ok ([], p)
  | k + 1, texts, p =>
    match skipS l [36] p with
    | .error e => .error e
    | .ok q =>
      match bulkS l texts q with
      | .error e => .error e
      | .ok (s, q') => (bulksS l k (texts - s.size) q').map fun x => (s :: x.1, x.2)
def parseS (l : List UInt8) : Except Int (List ByteArray × Nat) :=
  match skipS l [42] 0 with
  | .error e => .error e
  | .ok p =>
    match numS l 1 65536 (l.length - p) 0 0 p with
    | .error e => .error e
    | .ok (k, q) => bulksS l k 1048576 q

/-- A reply: its kind, its number, its text, its list. -/
inductive Rep where
  | mk (k n : Int) (s : ByteArray) (l : List Rep)
/-- Where a line's text ends, and how many bytes of texts there may be yet. -/
def plainS (l : List UInt8) : Nat → Nat → Nat → Except Int (Nat × Nat)
  | 0, _, _ => .error 130
  | k + 1, texts, p =>
    if h : p < l.length then
      if l[p].toNat = 13 then .ok (p, texts)
      else if l[p].toNat = 10 ∨ texts = 0 then .error 131
      else plainS l k (texts - 1) (p + 1)
    else .error 130
/-- A line's text: the text, where it ends, how many bytes of texts there may be yet. -/
def lineS' (l : List UInt8) (texts p : Nat) : Except Int (ByteArray × Nat × Nat) :=
  match plainS l (l.length - p) texts p with
  | .error e => .error e
  | .ok (q, t) => (skipS l [10] (q + 1)).map fun r => (cutS l p (q - p), r, t)
def signS (l : List UInt8) (p : Nat) : Except Int (Int × Nat) :=
  if h : p < l.length then
    if l[p].toNat = 45 then (numS l 1 9223372036854775808 (l.length - (p + 1)) 0 0 (p + 1)).map fun x => (-(x.1 : Int), x.2)
    else (numS l 0 9223372036854775807 (l.length - p) 0 0 p).map fun x => ((x.1 : Int), x.2)
  else .error 130
structure St where
  p : Nat
  texts : Nat
  items : Nat
def repsS (f : St → Except Int (Rep × St)) : Nat → St → Except Int (List Rep × St)
  | 0, s => .ok ([], s)
  | k + 1, s =>
    match f s with
    | .error e => .error e
    | .ok (x, s') => (repsS f k s').map fun y => (x :: y.1, y.2)
/-- What stands behind a sign that begins a list. -/
def listS (l : List UInt8) (f : St → Except Int (Rep × St)) (s : St) : Except Int (Rep × St) :=
  match numS l 0 s.items (l.length - s.p) 0 0 s.p with
  | .error e => .error e
  | .ok (n, q) => (repsS f n ⟨q, s.texts, s.items - n⟩).map fun x => (.mk 5 0 ⟨#[]⟩ x.1, x.2)
def dollarS (l : List UInt8) (s : St) : Except Int (Rep × St) :=
  if h : s.p < l.length ∧ l[s.p]!.toNat = 45 then (skipS l [45, 49, 13, 10] s.p).map fun q => (.mk 0 0 ⟨#[]⟩ [], ⟨q, s.texts, s.items⟩)
  else (bulkS l s.texts s.p).map fun x => (.mk 4 0 x.1 [], ⟨x.2, s.texts - x.1.size, s.items⟩)
/-- A reply behind its sign. -/
def kindS (l : List UInt8) (sub : Option (St → Except Int (Rep × St))) (c : Nat) (s : St) : Except Int (Rep × St) :=
  if c = 43 then (lineS' l s.texts s.p).map fun x => (.mk 1 0 x.1 [], ⟨x.2.1, x.2.2, s.items⟩)
  else if c = 45 then (lineS' l s.texts s.p).map fun x => (.mk 2 0 x.1 [], ⟨x.2.1, x.2.2, s.items⟩)
  else if c = 58 then (signS l s.p).map fun x => (.mk 3 x.1 ⟨#[]⟩ [], ⟨x.2, s.texts, s.items⟩)
  else if c = 36 then dollarS l s
  else if c = 42 then (match sub with | none => .error 131 | some f => listS l f s)
  else .error 131
def replyS (l : List UInt8) : Nat → St → Except Int (Rep × St)
  | 0, s => if h : s.p < l.length then kindS l none l[s.p].toNat ⟨s.p + 1, s.texts, s.items⟩ else .error 130
  | d + 1, s => if h : s.p < l.length then kindS l (some (replyS l d)) l[s.p].toNat ⟨s.p + 1, s.texts, s.items⟩ else .error 130
def decodeS (l : List UInt8) : Except Int (Rep × St) := replyS l 100 ⟨0, 1048576, 65536⟩
end Go.Proofs.YtopdgmchkoaeeaaDoor
