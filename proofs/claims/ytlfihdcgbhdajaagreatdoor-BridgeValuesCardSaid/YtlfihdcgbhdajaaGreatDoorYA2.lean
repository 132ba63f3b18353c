/- Requests and replies, told plainly: what bytes begin with. Requests and replies on what is left of the bytes: readers that go on, numbers as they are laid and read. Replies on what is left of the bytes. Replies: their bytes; what is read is what was laid, and the other way round. -/
import Derived.Lib.ItoaMem
namespace Go.Proofs.YtlfihdcgbhdajaaGreatDoor
set_option linter.unusedVariables false

inductive Rep where
 | mk (k n : Int) (s : ByteArray) (l : List Rep)
structure St where
 p : Nat
 texts : Nat
 items : Nat
end Go.Proofs.YtlfihdcgbhdajaaGreatDoor
namespace Go.Proofs.YtlfihdcgbhdajaaGreatDoor
open Go.Lib
set_option linter.unusedVariables false
set_option linter.unusedSimpArgs false
def Goes {α : Type} (f : List UInt8 → Except Int (α × List UInt8)) : Prop :=
 ∀ b m, (∀ a r, f b = .ok (a, r) → f (b ++ m) = .ok (a, r ++ m)) ∧ (∀ e, f b = .error e → e = 130 ∨ (e = 131 ∧ f (b ++ m) = .error 131))
theorem Goes.then {α β : Type} {f : List UInt8 → Except Int (α × List UInt8)} {g : α → List UInt8 → Except Int (β × List UInt8)} (hf : Goes f) (hg : ∀ a, Goes (g a)) :
  Goes (fun b => match f b with | .error e => .error e | .ok (a, q) => g a q) := by
 intro b m
 have h := hf b m
 constructor
 ·intro x r hx
  cases hb : f b with
  | error e => simp only [hb] at hx; cases hx
  | ok y =>
   obtain ⟨a, q⟩ := y
   simp only [hb] at hx
   simp only [h.1 a q hb]
   exact (hg a q m).1 x r hx
 ·intro e hx
  cases hb : f b with
  | error e' =>
   simp only [hb] at hx
   cases hx
   rcases h.2 _ hb with h1 | ⟨h1, h2⟩
   ·exact .inl h1
   ·exact .inr ⟨h1, by simp only [h2]⟩
  | ok y =>
   obtain ⟨a, q⟩ := y
   simp only [hb] at hx
   simp only [h.1 a q hb]
   exact (hg a q m).2 e hx
theorem Goes.map {α β : Type} {f : List UInt8 → Except Int (α × List UInt8)} (hf : Goes f) (k : α → β) : Goes (fun b => (f b).map fun x => (k x.1, x.2)) := by
 intro b m
 have h := hf b m
 constructor
 ·intro x r hx
  cases hb : f b with
  | error e => simp only [hb] at hx; cases hx
  | ok y =>
   obtain ⟨a, q⟩ := y
   simp only [hb] at hx
   cases hx
   simp only [h.1 a q hb]; rfl
 ·intro e hx
  cases hb : f b with
  | error e' =>
   simp only [hb] at hx
   cases hx
   rcases h.2 _ hb with h1 | ⟨h1, h2⟩
   ·exact .inl h1
   ·exact .inr ⟨h1, by simp only [h2]; rfl⟩
  | ok y => simp only [hb] at hx; cases hx
def lineB (s : List UInt8) : List UInt8 := s ++ [13, 10]
def textB (s : ByteArray) : List UInt8 := 36 :: lineB (decDigits s.size) ++ lineB s.data.toList
def textsB : List ByteArray → List UInt8
 | [] => []
 | s :: l => textB s ++ textsB l
def reqB (l : List ByteArray) : List UInt8 := 42 :: lineB (decDigits l.length) ++ textsB l
def sumS (l : List ByteArray) : Nat := (l.map (·.size)).sum
def reqOk (l : List ByteArray) : Prop := 1 ≤ l.length ∧ l.length ≤ 65536 ∧ sumS l ≤ 1048576
end Go.Proofs.YtlfihdcgbhdajaaGreatDoor
namespace Go.Proofs.YtlfihdcgbhdajaaGreatDoor
open Go.Lib
set_option linter.unusedVariables false
set_option linter.unusedSimpArgs false

abbrev RepR (α : Type) : Type := Except Int ((α × Nat × Nat) × List UInt8)
def BrS {α : Type} (l : List UInt8) : Except Int (α × St) → RepR α → Prop
 | .ok x, .ok y => x.1 = y.1.1 ∧ x.2.texts = y.1.2.1 ∧ x.2.items = y.1.2.2 ∧ x.2.p ≤ l.length ∧ y.2 = l.drop x.2.p
 | .error e, .error f => e = f
 | _, _ => False
theorem BrS.line {l : List UInt8} {x : Except Int (ByteArray × Nat × Nat)} {y : Except Int ((ByteArray × Nat) × List UInt8)} (h : BrS l (x.map fun x => (x.1, ⟨x.2.1, x.2.2, 0⟩)) (y.map fun x => ((x.1.1, x.1.2, 0), x.2))) (k : Int) (i : Nat) :
  BrS l (x.map fun x => (Rep.mk k 0 x.1 [], ⟨x.2.1, x.2.2, i⟩)) (y.map fun x => ((Rep.mk k 0 x.1.1 [], x.1.2, i), x.2)) := by
 cases x <;> cases y <;> first | exact False.elim h | exact h | skip
 obtain ⟨h1, h2, h3, h4, h5⟩ := h
 simp only at h1 h2 h3 h4 h5
 exact ⟨by simp only [h1], h2, rfl, h4, h5⟩
end Go.Proofs.YtlfihdcgbhdajaaGreatDoor
namespace Go.Proofs.YtlfihdcgbhdajaaGreatDoor
open Go.Lib
set_option linter.unusedVariables false
set_option linter.unusedSimpArgs false
mutual
def encR : Rep → List UInt8
 | .mk k n s l =>
  if k = 0 then [36, 45, 49, 13, 10]
  else if k = 1 then 43 :: lineB s.data.toList
  else if k = 2 then 45 :: lineB s.data.toList
  else if k = 3 then 58 :: lineB (itoa n)
  else if k = 4 then textB s
  else 42 :: lineB (decDigits l.length) ++ encL l
def encL : List Rep → List UInt8
 | [] => []
 | x :: l => encR x ++ encL l
end
def linedB (s : ByteArray) : Bool := s.data.toList.all fun c => !(c.toNat == 13) && !(c.toNat == 10)
mutual
def fineR : Nat → Rep → Bool
 | d, .mk k n s l =>
  if k = 0 then n == 0 && s.size == 0 && l.length == 0
  else if k = 1 ∨ k = 2 then n == 0 && linedB s && l.length == 0
  else if k = 3 then s.size == 0 && l.length == 0
  else if k = 4 then n == 0 && l.length == 0
  else if k = 5 then (match d with | 0 => false | d + 1 => n == 0 && s.size == 0 && fineL d l)
  else false
def fineL : Nat → List Rep → Bool
 | _, [] => true
 | d, x :: l => fineR d x && fineL d l
end
mutual
def txR : Rep → Nat
 | .mk _ _ s l => s.size + txL l
def txL : List Rep → Nat
 | [] => 0
 | x :: l => txR x + txL l
end
mutual
def itR : Rep → Nat
 | .mk _ _ _ l => l.length + itL l
def itL : List Rep → Nat
 | [] => 0
 | x :: l => itR x + itL l
end
mutual
def i64R : Rep → Prop
 | .mk _ n _ l => (-9223372036854775808 ≤ n ∧ n ≤ 9223372036854775807) ∧ i64L l
def i64L : List Rep → Prop
 | [] => True
 | x :: l => i64R x ∧ i64L l
end
theorem bytes_nil {s : ByteArray} (h : s.size = 0) : s = ⟨#[]⟩ := by
 obtain ⟨a⟩ := s
 have : a.size = 0 := h
 rw [Array.eq_empty_of_size_eq_zero this]
theorem fineL_all : ∀ (d : Nat) (l : List Rep), fineL d l = l.all (fineR d)
 | _, [] => by simp only [fineL, List.all_nil]
 | d, x :: l => by simp only [fineL, List.all_cons, fineL_all d l]
def repOk (x : Rep) : Prop := fineR 100 x = true ∧ txR x ≤ 1048576 ∧ itR x ≤ 65536
end Go.Proofs.YtlfihdcgbhdajaaGreatDoor
