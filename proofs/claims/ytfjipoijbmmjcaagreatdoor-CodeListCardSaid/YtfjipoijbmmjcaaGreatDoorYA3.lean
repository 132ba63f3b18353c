/- Programs of code as the laws of layer 18 read them: plain records; how they lie in memory. What an operand names: the small functions. -/
import Derived.Test.YtfjipoijbmmjcaaGreatDoorYA1
import Derived.Test.YtfjipoijbmmjcaaGreatDoorProg
import Derived.Lib.Strings
namespace Go.Proofs.YtfjipoijbmmjcaaGreatDoor
open Go.RowKit
set_option linter.unusedVariables false
set_option linter.unusedSimpArgs false

structure Ins where
 op : Int
 a : Int
 b : Int
 c : Int
 deriving DecidableEq
structure Pr where
 pa : Int
 rg : Int
 cd : List Ins
structure Pg where
 ps : List Pr
 ni : Nat
 ts : List ByteArray
def CodeAt (w : World) (v : Value) (l : List Ins) : Prop :=
 ∃ (q : Option Addr) (c : Nat), v = .slice q l.length c ∧ (0 < l.length → ∃ b o, q = some ⟨b, o, none⟩ ∧
  ∀ i (h : i < l.length), w.cell? ⟨b, o + i * 4, none⟩ = some (.int .i64 l[i].op) ∧ w.cell? ⟨b, o + i * 4 + 1, none⟩ = some (.int .i64 l[i].a) ∧ w.cell? ⟨b, o + i * 4 + 2, none⟩ = some (.int .i64 l[i].b) ∧ w.cell? ⟨b, o + i * 4 + 3, none⟩ = some (.int .i64 l[i].c))
def ProtosAt (w : World) (v : Value) (l : List Pr) : Prop :=
 ∃ (q : Option Addr) (c : Nat), v = .slice q l.length c ∧ (0 < l.length → ∃ b o, q = some ⟨b, o, none⟩ ∧
  ∀ i (h : i < l.length), w.cell? ⟨b, o + i * 3, none⟩ = some (.int .i64 l[i].pa) ∧ w.cell? ⟨b, o + i * 3 + 1, none⟩ = some (.int .i64 l[i].rg) ∧ ∃ cv, w.cell? ⟨b, o + i * 3 + 2, none⟩ = some cv ∧ CodeAt w cv l[i].cd)
def TextsAt (w : World) (v : Value) (l : List ByteArray) : Prop :=
 ∃ (q : Option Addr) (c : Nat), v = .slice q l.length c ∧ (0 < l.length → ∃ b o, q = some ⟨b, o, none⟩ ∧
  ∀ i (h : i < l.length), w.cell? ⟨b, o + i, none⟩ = some (.string l[i]))
def IntsAt (v : Value) (n : Nat) : Prop := ∃ (q : Option Addr) (c : Nat), v = .slice q n c
theorem cell_lt {w : World} {a : Addr} {v : Value} (h : w.cell? a = some v) : a.block < w.heap.size := by
 rcases Nat.lt_or_ge a.block w.heap.size with hlt | hge
 ·exact hlt
 ·simp [World.cell?, Array.getElem?_eq_none hge] at h
theorem Ext.cell {w w' : World} (h : Ext w w') {a : Addr} {v : Value} (hc : w.cell? a = some v) : w'.cell? a = some v :=
 (Below.cell h (cell_lt hc)).trans hc
theorem CodeAt.ext {w w' : World} {v : Value} {l : List Ins} (h : CodeAt w v l) (he : Ext w w') : CodeAt w' v l := by
 obtain ⟨q, c, rfl, hq⟩ := h
 refine ⟨q, c, rfl, fun hl => ?_⟩
 obtain ⟨b, o, rfl, hx⟩ := hq hl
 exact ⟨b, o, rfl, fun i hi => ⟨he.cell (hx i hi).1, he.cell (hx i hi).2.1, he.cell (hx i hi).2.2.1, he.cell (hx i hi).2.2.2⟩⟩
theorem ProtosAt.ext {w w' : World} {v : Value} {l : List Pr} (h : ProtosAt w v l) (he : Ext w w') : ProtosAt w' v l := by
 obtain ⟨q, c, rfl, hq⟩ := h
 refine ⟨q, c, rfl, fun hl => ?_⟩
 obtain ⟨b, o, rfl, hx⟩ := hq hl
 refine ⟨b, o, rfl, fun i hi => ?_⟩
 obtain ⟨h1, h2, cv, h3, h4⟩ := hx i hi
 exact ⟨he.cell h1, he.cell h2, cv, he.cell h3, h4.ext he⟩
theorem TextsAt.ext {w w' : World} {v : Value} {l : List ByteArray} (h : TextsAt w v l) (he : Ext w w') : TextsAt w' v l := by
 obtain ⟨q, c, rfl, hq⟩ := h
 refine ⟨q, c, rfl, fun hl => ?_⟩
 obtain ⟨b, o, rfl, hx⟩ := hq hl
 exact ⟨b, o, rfl, fun i hi => he.cell (hx i hi)⟩
def builtL : List ByteArray := [⟨#[99, 97, 108, 108]⟩, ⟨#[116, 114, 121]⟩, ⟨#[101, 114, 114, 111, 114]⟩, ⟨#[116, 121, 112, 101]⟩, ⟨#[116, 111, 115, 116, 114, 105, 110, 103]⟩, ⟨#[116, 111, 110, 117, 109, 98, 101, 114]⟩, ⟨#[108, 101, 110]⟩, ⟨#[115, 117, 98]⟩, ⟨#[114, 101, 112]⟩, ⟨#[102, 105, 110, 100]⟩, ⟨#[98, 121, 116, 101]⟩, ⟨#[99, 104, 97, 114]⟩, ⟨#[99, 111, 110, 99, 97, 116]⟩, ⟨#[105, 110, 115, 101, 114, 116]⟩, ⟨#[114, 101, 109, 111, 118, 101]⟩, ⟨#[107, 101, 121, 115]⟩]
def builtB (s : ByteArray) : Bool := builtL.any fun x => x.data == s.data
def opd (p : Pg) (f : Pr) (k n : Int) : Bool :=
 if k = 0 then n == 0 else if k = 1 then decide (0 ≤ n) && decide (n < f.rg) else if k = 2 then decide (0 ≤ n) && decide (n < f.cd.length)
 else if k = 3 then decide (0 ≤ n) && decide (n < p.ni) else if k = 4 then decide (0 ≤ n) && decide (n < p.ts.length) else if k = 5 then decide (0 ≤ n) && decide (n < p.ps.length)
 else if k = 6 then decide (0 ≤ n) && decide (n < p.ts.length) && builtB (p.ts.getD n.toNat ⟨#[]⟩) else decide (0 ≤ n) && decide (n ≤ f.rg)
def ka (op : Int) : Int := if op = 27 then 2 else if op = 35 then 0 else 1
def kb (op : Int) : Int :=
 if op = 4 then 3 else if op = 5 then 4 else if op = 1 ∨ op = 6 ∨ (10 ≤ op ∧ op ≤ 26) then 1 else if 28 ≤ op ∧ op ≤ 31 then 2 else if op = 32 then 5 else if op = 33 then 6 else 0
def kc (op : Int) : Int := if (10 ≤ op ∧ op ≤ 23) ∨ op = 30 ∨ op = 31 then 1 else if op = 33 then 7 else 0
def extra (p : Pg) (f : Pr) (i : Ins) : Bool :=
 if i.op = 1 then decide (i.a ≤ i.b) else if i.op = 30 ∨ i.op = 31 then decide (i.a + 2 < f.rg)
 else if i.op = 32 then decide (i.a + (p.ps.getD i.b.toNat ⟨0, 0, []⟩).pa ≤ f.rg) else if i.op = 33 then decide (i.a + i.c ≤ f.rg) else true
def insB (p : Pg) (f : Pr) (i : Ins) : Bool :=
 decide (1 ≤ i.op) && decide (i.op ≤ 35) && opd p f (ka i.op) i.a && opd p f (kb i.op) i.b && opd p f (kc i.op) i.c && extra p f i
def endB (l : List Ins) : Bool := match l.getLast? with | some i => i.op == 34 || i.op == 35 || i.op == 27 | none => false
def prB (f : Pr) : Bool := decide (0 ≤ f.pa) && decide (f.pa ≤ f.rg) && decide (f.rg ≤ 500)
def chkB (p : Pg) : Bool := (match p.ps with | [] => false | f :: _ => f.pa == 0) && p.ps.all prB && p.ps.all fun f => endB f.cd && f.cd.all (insB p f)
structure Small (p : Pg) : Prop where
 np : p.ps.length ≤ 100
 nc : ∀ f ∈ p.ps, f.cd.length ≤ 200
 ni : p.ni ≤ 100
 nt : p.ts.length ≤ 100
 sz : ∀ s ∈ p.ts, s.size ≤ 10000
def i64 (n : Int) : Prop := -9223372036854775808 ≤ n ∧ n ≤ 9223372036854775807
structure InsW (i : Ins) : Prop where
 op : i64 i.op
 a : i64 i.a
 b : i64 i.b
 c : i64 i.c
structure PrW (f : Pr) : Prop where
 pa : i64 f.pa
 rg : i64 f.rg
 cd : ∀ i ∈ f.cd, InsW i
end Go.Proofs.YtfjipoijbmmjcaaGreatDoor
namespace Go.Proofs.YtfjipoijbmmjcaaGreatDoor
open Go.RowKit
set_option linter.unusedVariables false
set_option linter.unusedSimpArgs false

theorem reg_any (f : Pr) (cv : Value) (n : Int) (w : World) :
  Calls Tryz.prog 35 #[.agg #[.int .i64 f.pa, .int .i64 f.rg, cv], .int .i64 n] w fun e w' => e = .returned (.bool (decide (0 ≤ n) && decide (n < f.rg))) ∧ w' = w.alloc (.cells #[.int .i64 f.pa, .int .i64 f.rg, cv] 39) := by
 cases h0 : decide (0 ≤ n) <;> cases h1 : decide (n < f.rg)
 all_goals
  go_enter Tryz.func35, Tryz.ntmps35
  go_wp2
  go_ret
  exact ⟨rfl, rfl⟩
theorem place_any (f : Pr) (q : Option Addr) (c m : Nat) (n : Int) (w : World) :
  Calls Tryz.prog 36 #[.agg #[.int .i64 f.pa, .int .i64 f.rg, .slice q m c], .int .i64 n] w fun e w' => e = .returned (.bool (decide (0 ≤ n) && decide (n < (m : Int)))) ∧ w' = w.alloc (.cells #[.int .i64 f.pa, .int .i64 f.rg, .slice q m c] 39) := by
 cases h0 : decide (0 ≤ n) <;> cases h1 : decide (n < (m : Int))
 all_goals
  go_enter Tryz.func36, Tryz.ntmps36
  go_wp2
  go_ret
  exact ⟨rfl, rfl⟩
theorem opf_1 (B : Nat) (n : Int) (w : World) (h : w.cell? ⟨B, 0, none⟩ = some (.int .i64 n)) :
  Calls Tryz.prog 61 #[.pointer (some ⟨B, 0, none⟩)] w fun e w' => e = .returned (.bool (n == 0)) ∧ w' = w := by
 go_enter Tryz.func61, Tryz.ntmps61
 go_wp2
 go_ret
 exact ⟨rfl, rfl⟩
theorem opf_2 (B X : Nat) (n r : Int) (w : World) (h : w.cell? ⟨B, 0, none⟩ = some (.int .i64 n)) (hx : w.cell? ⟨X, 4, none⟩ = some (.int .i64 r)) :
  Calls Tryz.prog 62 #[.pointer (some ⟨B, 0, none⟩), .pointer (some ⟨X, 0, none⟩)] w fun e w' => e = .returned (.bool (decide (0 ≤ n) && decide (n < r))) ∧ w' = w := by
 cases h0 : decide (0 ≤ n) <;> cases h1 : decide (n < r)
 all_goals
  go_enter Tryz.func62, Tryz.ntmps62
  go_wp2
  go_ret
  exact ⟨rfl, rfl⟩
theorem opf_3 (B X : Nat) (n : Int) (q : Option Addr) (m c : Nat) (w : World) (h : w.cell? ⟨B, 0, none⟩ = some (.int .i64 n)) (hx : w.cell? ⟨X, 5, none⟩ = some (.slice q m c)) :
  Calls Tryz.prog 63 #[.pointer (some ⟨B, 0, none⟩), .pointer (some ⟨X, 0, none⟩)] w fun e w' => e = .returned (.bool (decide (0 ≤ n) && decide (n < (m : Int)))) ∧ w' = w := by
 cases h0 : decide (0 ≤ n) <;> cases h1 : decide (n < (m : Int))
 all_goals
  go_enter Tryz.func63, Tryz.ntmps63
  go_wp2
  go_ret
  exact ⟨rfl, rfl⟩
theorem opf_4 (B X : Nat) (n : Int) (q : Option Addr) (m c : Nat) (w : World) (h : w.cell? ⟨B, 0, none⟩ = some (.int .i64 n)) (hx : w.cell? ⟨X, 1, none⟩ = some (.slice q m c)) :
  Calls Tryz.prog 64 #[.pointer (some ⟨B, 0, none⟩), .pointer (some ⟨X, 0, none⟩)] w fun e w' => e = .returned (.bool (decide (0 ≤ n) && decide (n < (m : Int)))) ∧ w' = w := by
 cases h0 : decide (0 ≤ n) <;> cases h1 : decide (n < (m : Int))
 all_goals
  go_enter Tryz.func64, Tryz.ntmps64
  go_wp2
  go_ret
  exact ⟨rfl, rfl⟩
theorem opf_5 (B X : Nat) (n : Int) (q : Option Addr) (m c : Nat) (w : World) (h : w.cell? ⟨B, 0, none⟩ = some (.int .i64 n)) (hx : w.cell? ⟨X, 2, none⟩ = some (.slice q m c)) :
  Calls Tryz.prog 65 #[.pointer (some ⟨B, 0, none⟩), .pointer (some ⟨X, 0, none⟩)] w fun e w' => e = .returned (.bool (decide (0 ≤ n) && decide (n < (m : Int)))) ∧ w' = w := by
 cases h0 : decide (0 ≤ n) <;> cases h1 : decide (n < (m : Int))
 all_goals
  go_enter Tryz.func65, Tryz.ntmps65
  go_wp2
  go_ret
  exact ⟨rfl, rfl⟩
theorem opf_6 (B X : Nat) (n : Int) (q : Option Addr) (m c : Nat) (w : World) (h : w.cell? ⟨B, 0, none⟩ = some (.int .i64 n)) (hx : w.cell? ⟨X, 0, none⟩ = some (.slice q m c)) :
  Calls Tryz.prog 66 #[.pointer (some ⟨B, 0, none⟩), .pointer (some ⟨X, 0, none⟩)] w fun e w' => e = .returned (.bool (decide (0 ≤ n) && decide (n < (m : Int)))) ∧ w' = w := by
 cases h0 : decide (0 ≤ n) <;> cases h1 : decide (n < (m : Int))
 all_goals
  go_enter Tryz.func66, Tryz.ntmps66
  go_wp2
  go_ret
  exact ⟨rfl, rfl⟩
theorem opf_8 (B X : Nat) (n r : Int) (w : World) (h : w.cell? ⟨B, 0, none⟩ = some (.int .i64 n)) (hx : w.cell? ⟨X, 4, none⟩ = some (.int .i64 r)) :
  Calls Tryz.prog 69 #[.pointer (some ⟨B, 0, none⟩), .pointer (some ⟨X, 0, none⟩)] w fun e w' => e = .returned (.bool (decide (0 ≤ n) && decide (n ≤ r))) ∧ w' = w := by
 cases h0 : decide (0 ≤ n) <;> cases h1 : decide (n ≤ r)
 all_goals
  go_enter Tryz.func69, Tryz.ntmps69
  go_wp2
  go_ret
  exact ⟨rfl, rfl⟩
theorem any_drop (s : ByteArray) (k : Nat) (h : k < builtL.length) : (builtL.drop k).any (fun x => x.data == s.data) = ((builtL[k].data == s.data) || (builtL.drop (k + 1)).any fun x => x.data == s.data) := by
 rw [List.drop_eq_getElem_cons h, List.any_cons]
theorem eq_str (x s : ByteArray) (b : Bool) (h : (x.data == s.data) = b) : (x.toList == s.toList) = b := by
 rw [Lib.toList_data, Lib.toList_data, ← h, Bool.eq_iff_iff, beq_iff_eq, beq_iff_eq]
 exact ⟨fun e => Array.ext' (by simpa using e), fun e => by rw [e]⟩
theorem rbuilt_any (s : ByteArray) (w : World) : Calls Tryz.prog 37 #[.string s] w fun e w' => e = .returned (.bool (builtB s)) ∧ Ext w w' := by
 go_enter Tryz.func37, Tryz.ntmps37
 go_wp2
 go_loopw [4] (fun i wr => ∃ k : Nat, k ≤ 16 ∧ i = .int .i64 k ∧ Ext w wr ∧ Blk wr w.heap.size 9 (builtL.map Value.string).toArray ∧ Hid ((builtL.drop k).any (fun x => x.data == s.data) = builtB s)) (fun i _ => 16 - (intOf i).toNat)
 case atStart => exact ⟨0, Nat.zero_le _, rfl, (Ext.refl w).alloc _, Blk.new _ _ _, rfl⟩
 case round =>
  obtain ⟨k, hk, rfl, he, hb, H⟩ := hrel
  by_cases h1 : k < 16
  ·have hc : wr.cell? ⟨w.heap.size, k, none⟩ = some (.string (builtL[k]'h1)) := by
    rw [hb.cell]; simp [show k < builtL.length from h1]; rfl
   cases h2 : ((builtL[k]'h1).data == s.data)
   ·have h3 := eq_str _ _ _ h2
    have HH : Hid ((builtL.drop (k + 1)).any (fun x => x.data == s.data) = builtB s) := by
     have := H.out; rw [any_drop s k h1, h2] at this; exact this
    clear H h2
    have HB := Lib.hid hb
    clear hb
    go_wp2
    go_roundw
    case rel => exact ⟨k + 1, h1, by go_num, he, HB.out, HH⟩
    case measure => simp [intOf]; omega
   ·have h3 := eq_str _ _ _ h2
    have HH : Hid (builtB s = true) := by
     have := H.out; rw [any_drop s k h1, h2] at this; exact this.symm
    clear H h2 hb
    go_wp2
    go_ret
    exact ⟨ret_of (bool_eq HH.out.symm), he⟩
  ·obtain rfl : k = 16 := by omega
   have HH : Hid (builtB s = false) := by have := H.out; exact this.symm
   clear H hb
   go_wp2
   go_ret
   exact ⟨ret_of (bool_eq HH.out.symm), he⟩
end Go.Proofs.YtfjipoijbmmjcaaGreatDoor
