/- Programs of code as the laws of layer 18 read them: plain records; how they lie in memory. -/
import Derived.Test.YtifabbjgbfpfbaaDoorBase
import Derived.Test.YtifabbjgbfpfbaaDoorMap
import Derived.Test.YtifabbjgbfpfbaaDoorProg
namespace Go.Proofs.YtifabbjgbfpfbaaDoor
open Go.RowKit
set_option linter.unusedVariables false
set_option linter.unusedSimpArgs false

structure Ins where
  op : Int
  a : Int
  b : Int
  c : Int
  deriving DecidableEq
structure Pr where
  pa : Int
  rg : Int
  cd : List Ins
structure Pg where
  ps : List Pr
  ni : Nat
  ts : List ByteArray

def CodeAt (w : World) (v : Value) (l : List Ins) : Prop :=
  ∃ (q : Option Addr) (c : Nat), v = .slice q l.length c ∧ (0 < l.length → ∃ b o, q = some ⟨b, o, none⟩ ∧
    ∀ i (h : i < l.length), w.cell? ⟨b, o + i * 4, none⟩ = some (.int .i64 l[i].op) ∧ w.cell? ⟨b, o + i * 4 + 1, none⟩ = some (.int .i64 l[i].a) ∧ w.cell? ⟨b, o + i * 4 + 2, none⟩ = some (.int .i64 l[i].b) ∧ w.cell? ⟨b, o + i * 4 + 3, none⟩ = some (.int .i64 l[i].c))
def ProtosAt (w : World) (v : Value) (l : List Pr) : Prop :=
  ∃ (q : Option Addr) (c : Nat), v = .slice q l.length c ∧ (0 < l.length → ∃ b o, q = some ⟨b, o, none⟩ ∧
    ∀ i (h : i < l.length), w.cell? ⟨b, o + i * 3, none⟩ = some (.int .i64 l[i].pa) ∧ w.cell? ⟨b, o + i * 3 + 1, none⟩ = some (.int .i64 l[i].rg) ∧ ∃ cv, w.cell? ⟨b, o + i * 3 + 2, none⟩ = some cv ∧ CodeAt w cv l[i].cd)
def TextsAt (w : World) (v : Value) (l : List ByteArray) : Prop :=
  ∃ (q : Option Addr) (c : Nat), v = .slice q l.length c ∧ (0 < l.length → ∃ b o, q = some ⟨b, o, none⟩ ∧
    ∀ i (h : i < l.length), w.cell? ⟨b, o + i, none⟩ = some (.string l[i]))
def IntsAt (v : Value) (n : Nat) : Prop := ∃ (q : Option Addr) (c : Nat), v = .slice q n c

theorem cell_lt {w : World} {a : Addr} {v : Value} (h : w.cell? a = some v) : a.block < w.heap.size := by
  rcases Nat.lt_or_ge a.block w.heap.size with hlt | hge
  · exact hlt
  · simp [World.cell?, Array.getElem?_eq_none hge] at h
theorem Ext.cell {w w' : World} (h : Ext w w') {a : Addr} {v : Value} (hc : w.cell? a = some v) : w'.cell? a = some v :=
  (Below.cell h (cell_lt hc)).trans hc
theorem CodeAt.ext {w w' : World} {v : Value} {l : List Ins} (h : CodeAt w v l) (he : Ext w w') : CodeAt w' v l := by
  obtain ⟨q, c, rfl, hq⟩ := h
  refine ⟨q, c, rfl, fun hl => ?_⟩
  obtain ⟨b, o, rfl, hx⟩ := hq hl
  exact ⟨b, o, rfl, fun i hi => ⟨he.cell (hx i hi).1, he.cell (hx i hi).2.1, he.cell (hx i hi).2.2.1, he.cell (hx i hi).2.2.2⟩⟩
theorem ProtosAt.ext {w w' : World} {v : Value} {l : List Pr} (h : ProtosAt w v l) (he : Ext w w') : ProtosAt w' v l := by
  obtain ⟨q, c, rfl, hq⟩ := h
  refine ⟨q, c, rfl, fun hl => ?_⟩
  obtain ⟨b, o, rfl, hx⟩ := hq hl
  refine ⟨b, o, rfl, fun i hi => ?_⟩
  obtain ⟨h1, h2, cv, h3, h4⟩ := hx i hi
  exact ⟨he.cell h1, he.cell h2, cv, he.cell h3, h4.ext he⟩
theorem TextsAt.ext {w w' : World} {v : Value} {l : List ByteArray} (h : TextsAt w v l) (he : Ext w w') : TextsAt w' v l := by
  obtain ⟨q, c, rfl, hq⟩ := h
  refine ⟨q, c, rfl, fun hl => ?_⟩
  obtain ⟨b, o, rfl, hx⟩ := hq hl
  exact ⟨b, o, rfl, fun i hi => he.cell (hx i hi)⟩

/-- The names of the language's functions. -/
def builtL : List ByteArray := [⟨#[99, 97, 108, 108]⟩, ⟨#[116, 114, 121]⟩, ⟨#[101, 114, 114, 111, 114]⟩, ⟨#[116, 121, 112, 101]⟩, ⟨#[116, 111, 115, 116, 114, 105, 110, 103]⟩, ⟨#[116, 111, 110, 117, 109, 98, 101, 114]⟩, ⟨#[108, 101, 110]⟩, ⟨#[115, 117, 98]⟩, ⟨#[114, 101, 112]⟩, ⟨#[102, 105, 110, 100]⟩, ⟨#[98, 121, 116, 101]⟩, ⟨#[99, 104, 97, 114]⟩, ⟨#[99, 111, 110, 99, 97, 116]⟩, ⟨#[105, 110, 115, 101, 114, 116]⟩, ⟨#[114, 101, 109, 111, 118, 101]⟩, ⟨#[107, 101, 121, 115]⟩]
def builtB (s : ByteArray) : Bool := builtL.any fun x => x.data == s.data

/-- May an operand be what it names? -/
def opd (p : Pg) (f : Pr) (k n : Int) : Bool :=
  if k = 0 then n == 0 else if k = 1 then decide (0 ≤ n) && decide (n < f.rg) else if k = 2 then decide (0 ≤ n) && decide (n < f.cd.length)
  else if k = 3 then decide (0 ≤ n) && decide (n < p.ni) else if k = 4 then decide (0 ≤ n) && decide (n < p.ts.length) else if k = 5 then decide (0 ≤ n) && decide (n < p.ps.length)
  else if k = 6 then decide (0 ≤ n) && decide (n < p.ts.length) && builtB (p.ts.getD n.toNat ⟨#[]⟩) else decide (0 ≤ n) && decide (n ≤ f.rg)
/-- What an instruction's operands name. -/
def ka (op : Int) : Int := if op = 27 then 2 else if op = 35 then 0 else 1
def kb (op : Int) : Int :=
  if op = 4 then 3 else if op = 5 then 4 else if op = 1 ∨ op = 6 ∨ (10 ≤ op ∧ op ≤ 26) then 1 else if 28 ≤ op ∧ op ≤ 31 then 2 else if op = 32 then 5 else if op = 33 then 6 else 0
def kc (op : Int) : Int := if (10 ≤ op ∧ op ≤ 23) ∨ op = 30 ∨ op = 31 then 1 else if op = 33 then 7 else 0
def extra (p : Pg) (f : Pr) (i : Ins) : Bool :=
  if i.op = 1 then decide (i.a ≤ i.b) else if i.op = 30 ∨ i.op = 31 then decide (i.a + 2 < f.rg)
  else if i.op = 32 then decide (i.a + (p.ps.getD i.b.toNat ⟨0, 0, []⟩).pa ≤ f.rg) else if i.op = 33 then decide (i.a + i.c ≤ f.rg) else true
def insB (p : Pg) (f : Pr) (i : Ins) : Bool :=
  decide (1 ≤ i.op) && decide (i.op ≤ 35) && opd p f (ka i.op) i.a && opd p f (kb i.op) i.b && opd p f (kc i.op) i.c && extra p f i
def endB (l : List Ins) : Bool := match l.getLast? with | some i => i.op == 34 || i.op == 35 || i.op == 27 | none => false
def prB (f : Pr) : Bool := decide (0 ≤ f.pa) && decide (f.pa ≤ f.rg) && decide (f.rg ≤ 500)
def chkB (p : Pg) : Bool := (match p.ps with | [] => false | f :: _ => f.pa == 0) && p.ps.all prB && p.ps.all fun f => endB f.cd && f.cd.all (insB p f)
/-- Programs that the laws look at are small. -/
structure Small (p : Pg) : Prop where
  np : p.ps.length ≤ 100
  nc : ∀ f ∈ p.ps, f.cd.length ≤ 200
  ni : p.ni ≤ 100
  nt : p.ts.length ≤ 100
  sz : ∀ s ∈ p.ts, s.size ≤ 10000
/-- Numbers as the machine holds them. -/
def i64 (n : Int) : Prop := -9223372036854775808 ≤ n ∧ n ≤ 9223372036854775807
structure InsW (i : Ins) : Prop where
  op : i64 i.op
  a : i64 i.a
  b : i64 i.b
  c : i64 i.c
structure PrW (f : Pr) : Prop where
  pa : i64 f.pa
  rg : i64 f.rg
  cd : ∀ i ∈ f.cd, InsW i
end Go.Proofs.YtifabbjgbfpfbaaDoor
