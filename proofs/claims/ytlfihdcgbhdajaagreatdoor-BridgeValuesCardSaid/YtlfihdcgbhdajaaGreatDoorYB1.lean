/- Contracts of the leaf functions of package values (layer 14) and of its reference: sums, differences, quotients, values, checks. Contracts of values' makers, of what may be a value, of a heap's maker; and of their twins in the reference of layer 14. What may be a value, by the reference; heaps are made; cells are taken. Cells are taken from a heap, and told. Values in three fields; two are the same; texts are made. Heaps of tables in plain words: what is under a key, what is put, how long a table is, its keys; how two maps, or two rows, stand for a table. What is told by a heap, and how it is behind each of its deeds. The keys of a table in order, by insertion one by one, are the sorted ones. -/
import Derived.Test.YtlfihdcgbhdajaaGreatDoorYA1
import Derived.Test.YtlfihdcgbhdajaaGreatDoorProg
import Derived.Test.YtlfihdcgbhdajaaGreatDoorYShelf
import Derived.Lib.Strings
namespace Go.Proofs.YtlfihdcgbhdajaaGreatDoor
open Go.RowKit
set_option linter.unusedVariables false

def turns (a b : Int) : Prop := (a.tmod b < 0 ∧ 0 < b) ∨ (0 < a.tmod b ∧ b < 0)
instance (a b : Int) : Decidable (turns a b) := inferInstanceAs (Decidable ((a.tmod b < 0 ∧ 0 < b) ∨ (0 < a.tmod b ∧ b < 0)))
end Go.Proofs.YtlfihdcgbhdajaaGreatDoor
namespace Go.Proofs.YtlfihdcgbhdajaaGreatDoor
open Go.RowKit
set_option linter.unusedVariables false

abbrev vv (k n : Int) (s : ByteArray) : Value := .agg #[.int .i64 k, .int .i64 n, .string s]
theorem int_any (n : Int) (w : World) : Calls Tryz.prog 21 #[.int .i64 n] w fun e w' => e = .returned (vv 2 n ⟨#[]⟩) ∧ Ext w w' := by
 go_enter Tryz.func21, Tryz.ntmps21
 go_wp2
 exact bodyPost_ret (v := vv 2 n ⟨#[]⟩) (by simp [results, Tryz.results21, go_sem]) rfl ⟨rfl, (Ext.refl w).alloc _⟩
theorem text_any (s : ByteArray) (w : World) : Calls Tryz.prog 22 #[.string s] w fun e w' => e = .returned (vv 3 0 s) ∧ Ext w w' := by
 go_enter Tryz.func22, Tryz.ntmps22
 go_wp2
 exact bodyPost_ret (v := vv 3 0 s) (by simp [results, Tryz.results22, go_sem]) rfl ⟨rfl, (Ext.refl w).alloc _⟩
theorem rtext_any (s : ByteArray) (w : World) : Calls Tryz.prog 84 #[.string s] w fun e w' => e = .returned (vv 3 0 s) ∧ Ext w w' := by
 go_enter Tryz.func84, Tryz.ntmps84
 go_wp2
 exact bodyPost_ret (v := vv 3 0 s) (by simp [results, Tryz.results84, go_sem]) rfl ⟨rfl, (Ext.refl w).alloc _⟩
def b2i (b : Bool) : Int := if b then 1 else 0
theorem bool_any (b : Bool) (w : World) : Calls Tryz.prog 18 #[.bool b] w fun e w' => e = .returned (vv 1 (b2i b) ⟨#[]⟩) ∧ Ext w w' := by
 cases b
 all_goals go_enter Tryz.func18, Tryz.ntmps18
 all_goals go_wp2
 ·exact bodyPost_ret (v := vv 1 0 ⟨#[]⟩) (by simp [results, Tryz.results18, go_sem]) rfl ⟨rfl, (Ext.refl w).alloc _⟩
 ·exact bodyPost_ret (v := vv 1 1 ⟨#[]⟩) (by simp [results, Tryz.results18, go_sem]) rfl ⟨rfl, (Ext.refl w).alloc _⟩
def checkB (k n : Int) (s : ByteArray) : Bool :=
 if k = 0 then n == 0 && s.toList.isEmpty else if k = 1 then s.toList.isEmpty && (n == 0 || n == 1) else if k = 2 then s.toList.isEmpty
 else if k = 3 then n == 0 && decide (s.size ≤ 1048576) else if k = 4 then s.toList.isEmpty && decide (0 ≤ n) else false
theorem check_any (k n : Int) (s : ByteArray) (w : World) : Calls Tryz.prog 46 #[vv k n s] w fun e w' => e = .returned (.bool (checkB k n s)) ∧ Ext w w' := by
 by_cases h0 : k = 0
 ·subst h0
  go_enter Tryz.func46, Tryz.ntmps46
  go_wp2
  all_goals (go_ret; go_tidy; refine ⟨ret_of (bool_eq ?_), (Ext.refl w).alloc _⟩)
  all_goals (first | (simp_all [checkB]; done) | (simp_all [checkB]; omega))
 by_cases h1 : k = 1
 ·subst h1
  go_enter Tryz.func46, Tryz.ntmps46
  go_wp2
  all_goals (go_ret; go_tidy; refine ⟨ret_of (bool_eq ?_), (Ext.refl w).alloc _⟩)
  all_goals (first | (simp_all [checkB]; done) | (simp_all [checkB]; omega))
 by_cases h2 : k = 2
 ·subst h2
  go_enter Tryz.func46, Tryz.ntmps46
  go_wp2
  all_goals (go_ret; go_tidy; refine ⟨ret_of (bool_eq ?_), (Ext.refl w).alloc _⟩)
  all_goals (first | (simp_all [checkB]; done) | (simp_all [checkB]; omega))
 by_cases h3 : k = 3
 ·subst h3
  go_enter Tryz.func46, Tryz.ntmps46
  go_wp2
  all_goals (go_ret; go_tidy; refine ⟨ret_of (bool_eq ?_), (Ext.refl w).alloc _⟩)
  all_goals (first | (simp_all [checkB]; done) | (simp_all [checkB]; omega))
 by_cases h4 : k = 4
 ·subst h4
  go_enter Tryz.func46, Tryz.ntmps46
  go_wp2
  all_goals (go_ret; go_tidy; refine ⟨ret_of (bool_eq ?_), (Ext.refl w).alloc _⟩)
  all_goals (first | (simp_all [checkB]; done) | (simp_all [checkB]; omega))
 ·go_enter Tryz.func46, Tryz.ntmps46
  go_wp2
  all_goals (go_ret; go_tidy; refine ⟨ret_of (bool_eq ?_), (Ext.refl w).alloc _⟩)
  all_goals (first | (simp_all [checkB]; done) | (simp_all [checkB]; omega))
end Go.Proofs.YtlfihdcgbhdajaaGreatDoor
namespace Go.Proofs.YtlfihdcgbhdajaaGreatDoor
open Go.RowKit
set_option linter.unusedVariables false

theorem rcheck_any (k n : Int) (s : ByteArray) (w : World) : Calls Tryz.prog 47 #[vv k n s] w fun e w' => e = .returned (.bool (checkB k n s)) ∧ Ext w w' := by
 by_cases h0 : k = 0
 ·subst h0
  go_enter Tryz.func47, Tryz.ntmps47
  go_wp2
  all_goals (go_ret; go_tidy; refine ⟨ret_of (bool_eq ?_), (Ext.refl w).alloc _⟩)
  all_goals (first | (simp_all [checkB]; done) | (simp_all [checkB]; omega))
 by_cases h1 : k = 1
 ·subst h1
  go_enter Tryz.func47, Tryz.ntmps47
  go_wp2
  all_goals (go_ret; go_tidy; refine ⟨ret_of (bool_eq ?_), (Ext.refl w).alloc _⟩)
  all_goals (first | (simp_all [checkB]; done) | (simp_all [checkB]; omega))
 by_cases h2 : k = 2
 ·subst h2
  go_enter Tryz.func47, Tryz.ntmps47
  go_wp2
  all_goals (go_ret; go_tidy; refine ⟨ret_of (bool_eq ?_), (Ext.refl w).alloc _⟩)
  all_goals (first | (simp_all [checkB]; done) | (simp_all [checkB]; omega))
 by_cases h3 : k = 3
 ·subst h3
  go_enter Tryz.func47, Tryz.ntmps47
  go_wp2
  all_goals (go_ret; go_tidy; refine ⟨ret_of (bool_eq ?_), (Ext.refl w).alloc _⟩)
  all_goals (first | (simp_all [checkB]; done) | (simp_all [checkB]; omega))
 by_cases h4 : k = 4
 ·subst h4
  go_enter Tryz.func47, Tryz.ntmps47
  go_wp2
  all_goals (go_ret; go_tidy; refine ⟨ret_of (bool_eq ?_), (Ext.refl w).alloc _⟩)
  all_goals (first | (simp_all [checkB]; done) | (simp_all [checkB]; omega))
 ·go_enter Tryz.func47, Tryz.ntmps47
  go_wp2
  all_goals (go_ret; go_tidy; refine ⟨ret_of (bool_eq ?_), (Ext.refl w).alloc _⟩)
  all_goals (first | (simp_all [checkB]; done) | (simp_all [checkB]; omega))
theorem new_any (c : Int) (w : World) (hc : c ≤ 9223372036854775807) (hc' : -9223372036854775808 ≤ c) : Calls Tryz.prog 6 #[.int .i64 c] w fun e w' =>
  e = .returned (.pointer (some ⟨w.heap.size, 0, none⟩)) ∧ w.alloc (.cells #[.slice none 0 0, .int .i64 (max c 0), .int .i64 0] 58) = w' := by
 rcases (by omega : c < 0 ∨ 0 ≤ c) with h0 | h0
 ·have e : max c 0 = 0 := by omega
  rw [e]
  clear e
  go_enter Tryz.func6, Tryz.ntmps6
  go_wp2
  go_ret
  exact ⟨rfl, by first | rfl | (congr; omega) | (rw [show max c 0 = 0 by omega]) | (rw [show max c 0 = c by omega])⟩
 ·have e : max c 0 = c := by omega
  rw [e]
  clear e
  go_enter Tryz.func6, Tryz.ntmps6
  go_wp2
  go_ret
  exact ⟨rfl, by first | rfl | (congr; omega) | (rw [show max c 0 = 0 by omega]) | (rw [show max c 0 = c by omega])⟩
theorem rnew_any (c : Int) (w : World) (hc : c ≤ 9223372036854775807) (hc' : -9223372036854775808 ≤ c) : Calls Tryz.prog 7 #[.int .i64 c] w fun e w' =>
  e = .returned (.pointer (some ⟨w.heap.size, 0, none⟩)) ∧ w.alloc (.cells #[.slice none 0 0, .int .i64 (max c 0), .int .i64 0] 41) = w' := by
 rcases (by omega : c < 0 ∨ 0 ≤ c) with h0 | h0
 ·have e : max c 0 = 0 := by omega
  rw [e]
  clear e
  go_enter Tryz.func7, Tryz.ntmps7
  go_wp2
  go_ret
  exact ⟨rfl, by first | rfl | (congr; omega) | (rw [show max c 0 = 0 by omega]) | (rw [show max c 0 = c by omega])⟩
 ·have e : max c 0 = c := by omega
  rw [e]
  clear e
  go_enter Tryz.func7, Tryz.ntmps7
  go_wp2
  go_ret
  exact ⟨rfl, by first | rfl | (congr; omega) | (rw [show max c 0 = 0 by omega]) | (rw [show max c 0 = c by omega])⟩
end Go.Proofs.YtlfihdcgbhdajaaGreatDoor
namespace Go.Proofs.YtlfihdcgbhdajaaGreatDoor
open Go.RowKit
set_option linter.unusedVariables false

def tkB (c s n : Int) : Bool := decide (n ≤ c - s)
def tk (c s n : Int) : Int := if n ≤ c - s then s + n else s
theorem tkB_yes {c s n : Int} (h : n ≤ c - s) : true = tkB c s n := by simp [tkB, h]
theorem tkB_no {c s n : Int} (h : ¬ n ≤ c - s) : false = tkB c s n := by simp [tkB, h]
theorem tk_yes {c s n : Int} (h : n ≤ c - s) : tk c s n = s + n := if_pos h
theorem tk_no {c s n : Int} (h : ¬ n ≤ c - s) : tk c s n = s := if_neg h
theorem take_any (g : Nat) (tv : Value) (c s n : Int) (w : World) (h : Blk w g 58 #[tv, .int .i64 c, .int .i64 s]) (hs : 0 ≤ s) (hc : s ≤ c) (hc' : c ≤ 9223372036854775807) (hn : 0 ≤ n) (hn' : n ≤ 4611686018427387903) :
  Calls Tryz.prog 50 #[.pointer (some ⟨g, 0, none⟩), .int .i64 n] w fun e w' =>
   e = .returned (.bool (tkB c s n)) ∧ Only g w w' ∧ Blk w' g 58 #[tv, .int .i64 c, .int .i64 (tk c s n)] := by
 have c1 : w.cell? ⟨g, 1, none⟩ = some (.int .i64 c) := h.cell 1
 have c2 : w.cell? ⟨g, 2, none⟩ = some (.int .i64 s) := h.cell 2
 have f2 : w.frozen? ⟨g, 2, none⟩ = false := h.frozen 2
 have e1 : IntKind.i64.wrap (c - s) = c - s := IntWalk.i64_in _ (by omega)
 by_cases hq : n ≤ c - s
 ·have hd : decide (c - s < n) = false := by simp; omega
  go_enter Tryz.func50, Tryz.ntmps50
  go_wp2
  go_quiet (fail)
  clear hd e1
  go_wp2
  go_ret
  refine ⟨ret_of (bool_eq (tkB_yes hq)), ((Only.refl g w).ext ((Ext.refl w).drewN _)).setCell (.inl rfl) _, ?_⟩
  rw [tk_yes hq]
  exact (h.drewN _).set_ 2 _
 ·have hd : decide (c - s < n) = true := by simp; omega
  go_enter Tryz.func50, Tryz.ntmps50
  go_wp2
  go_quiet (fail)
  clear hd e1
  go_wp2
  go_ret
  refine ⟨ret_of (bool_eq (tkB_no (by omega))), (Only.refl g w).ext ((Ext.refl w).drewN _), ?_⟩
  rw [tk_no (by omega)]
  exact h.drewN _
theorem rtake_any (g : Nat) (tv : Value) (c s n : Int) (w : World) (h : Blk w g 41 #[tv, .int .i64 c, .int .i64 s]) (hs : 0 ≤ s) (hc : s ≤ c) (hc' : c ≤ 9223372036854775807) (hn : 0 ≤ n) (hn' : n ≤ 4611686018427387903) :
  Calls Tryz.prog 83 #[.pointer (some ⟨g, 0, none⟩), .int .i64 n] w fun e w' =>
   e = .returned (.bool (tkB c s n)) ∧ Only g w w' ∧ Blk w' g 41 #[tv, .int .i64 c, .int .i64 (tk c s n)] := by
 have c1 : w.cell? ⟨g, 1, none⟩ = some (.int .i64 c) := h.cell 1
 have c2 : w.cell? ⟨g, 2, none⟩ = some (.int .i64 s) := h.cell 2
 have f2 : w.frozen? ⟨g, 2, none⟩ = false := h.frozen 2
 have e1 : IntKind.i64.wrap (c - s) = c - s := IntWalk.i64_in _ (by omega)
 by_cases hq : n ≤ c - s
 ·have hd : decide (c - s < n) = false := by simp; omega
  go_enter Tryz.func83, Tryz.ntmps83
  go_wp2
  go_quiet (fail)
  clear hd e1
  go_wp2
  go_ret
  refine ⟨ret_of (bool_eq (tkB_yes hq)), ((Only.refl g w).ext ((Ext.refl w).drewN _)).setCell (.inl rfl) _, ?_⟩
  rw [tk_yes hq]
  exact (h.drewN _).set_ 2 _
 ·have hd : decide (c - s < n) = true := by simp; omega
  go_enter Tryz.func83, Tryz.ntmps83
  go_wp2
  go_quiet (fail)
  clear hd e1
  go_wp2
  go_ret
  refine ⟨ret_of (bool_eq (tkB_no (by omega))), (Only.refl g w).ext ((Ext.refl w).drewN _), ?_⟩
  rw [tk_no (by omega)]
  exact h.drewN _
theorem spent_any (g : Nat) (tv : Value) (c s : Int) (w : World) (h : Blk w g 58 #[tv, .int .i64 c, .int .i64 s]) :
  Calls Tryz.prog 10 #[.pointer (some ⟨g, 0, none⟩)] w fun e w' => e = .returned (.int .i64 s) ∧ Ext w w' := by
 have c2 : w.cell? ⟨g, 2, none⟩ = some (.int .i64 s) := h.cell 2
 go_enter Tryz.func10, Tryz.ntmps10
 go_wp2
 go_ret
 exact ⟨rfl, Ext.refl w⟩
end Go.Proofs.YtlfihdcgbhdajaaGreatDoor
namespace Go.Proofs.YtlfihdcgbhdajaaGreatDoor
open Go.RowKit
set_option linter.unusedVariables false

structure Vl where
 k : Int
 n : Int
 s : ByteArray
abbrev Vl.v (x : Vl) : Value := .agg #[.int .i64 x.k, .int .i64 x.n, .string x.s]
def Vl.zero : Vl := ⟨0, 0, ⟨#[]⟩⟩
def Vl.ck (x : Vl) : Bool := checkB x.k x.n x.s
def sNone : ByteArray := ⟨#[]⟩
def sMemory : ByteArray := ⟨#[109, 101, 109, 111, 114, 121]⟩
def sLong : ByteArray := ⟨#[108, 111, 110, 103]⟩
def sType : ByteArray := ⟨#[116, 121, 112, 101]⟩
def mkN (s : ByteArray) : Int := (s.size : Int) / 16 + 1
def mkV (c sp : Int) (s : ByteArray) : Vl := if 1048576 < (s.size : Int) then .zero else if mkN s ≤ c - sp then ⟨3, 0, s⟩ else .zero
def mkW (c sp : Int) (s : ByteArray) : ByteArray := if 1048576 < (s.size : Int) then sLong else if mkN s ≤ c - sp then sNone else sMemory
def mkC (c sp : Int) (s : ByteArray) : Int := if 1048576 < (s.size : Int) then sp else tk c sp (mkN s)
abbrev HB (w : World) (g : Nat) (tv : Value) (c s : Int) : Prop := Blk w g 58 #[tv, .int .i64 c, .int .i64 s]
abbrev RB (w : World) (g : Nat) (tv : Value) (c s : Int) : Prop := Blk w g 41 #[tv, .int .i64 c, .int .i64 s]
theorem make_any (g : Nat) (tv : Value) (c sp : Int) (s : ByteArray) (w : World) (h : HB w g tv c sp) (hs : 0 ≤ sp) (hc : sp ≤ c) (hc' : c ≤ 9223372036854775807) (hz : s.size ≤ 9223372036854775807) :
  Calls Tryz.prog 31 #[.pointer (some ⟨g, 0, none⟩), .string s] w fun e w' =>
   e = .returned (.tuple #[(mkV c sp s).v, .string (mkW c sp s)]) ∧ Only g w w' ∧ HB w' g tv c (mkC c sp s) := by
 have hg := h.lt
 by_cases hl : 1048576 < (s.size : Int)
 ·go_enter Tryz.func31, Tryz.ntmps31
  go_wp2
  refine bodyPost_ret (v := .tuple #[Vl.zero.v, .string sLong]) (by simp [results, Tryz.results31, go_sem, Vl.zero, sLong]) rfl ⟨ret2_of ⟨?_, ?_⟩, ?_, ?_⟩
  ·rw [mkV, if_pos hl]
  ·rw [mkW, if_pos hl]
  ·exact (Only.refl g w).alloc _
  ·rw [mkC, if_pos hl]; exact h.alloc _
 ·have hn : 0 ≤ (s.size : Int) / 16 := by omega
  have hn' : (s.size : Int) / 16 ≤ 65536 := by omega
  have hk : ¬ w.heap.size = g := by omega
  have hl' : ¬ 1048576 < (s.size : Int) := hl
  by_cases hq : (s.size : Int) / 16 + 1 ≤ c - sp
  ·have hb : tkB c sp ((s.size : Int) / 16 + 1) = true := (tkB_yes hq).symm
   go_enter Tryz.func31, Tryz.ntmps31
   go_wp2_with (first
    | (go_at_call 50; refine (take_any g tv c sp _ _ (h.alloc _) hs hc hc' (by omega) (by omega)).mono ?_; rintro e w' ⟨rfl, ho, hb'⟩; obtain ⟨q1, q2⟩ := ho.cells)
    | (go_at_call 22; refine (text_any _ _).mono ?_; rintro e w'' ⟨rfl, he⟩; have hz' := ho.lt1; obtain ⟨p1, p2⟩ := he.cells))
   refine bodyPost_ret (v := .tuple #[vv 3 0 s, .string sNone]) (by simp [results, Tryz.results31, go_sem, sNone, *]) rfl ⟨ret2_of ⟨?_, ?_⟩, ?_, ?_⟩
   ·rw [mkV, if_neg (by omega), if_pos (by unfold mkN; omega)]
   ·rw [mkW, if_neg (by omega), if_pos (by unfold mkN; omega)]
   ·exact ((((((Only.refl g w).alloc _).trans ho).ext he).setCell (.inr (Nat.le_refl _)) _).setCell (.inr (Nat.le_refl _)) _).setCell (.inr (Nat.le_refl _)) _
   ·rw [mkC, if_neg (by omega)]
    exact (((hb'.ext he).far (by simp; omega) _).far (by simp; omega) _).far (by simp; omega) _
  ·have hb : tkB c sp ((s.size : Int) / 16 + 1) = false := (tkB_no hq).symm
   go_enter Tryz.func31, Tryz.ntmps31
   go_wp2_with (first
    | (go_at_call 50; refine (take_any g tv c sp _ _ (h.alloc _) hs hc hc' (by omega) (by omega)).mono ?_; rintro e w' ⟨rfl, ho, hb'⟩; obtain ⟨q1, q2⟩ := ho.cells))
   refine bodyPost_ret (v := .tuple #[Vl.zero.v, .string sMemory]) (by simp [results, Tryz.results31, go_sem, sMemory, Vl.zero, *]) rfl ⟨ret2_of ⟨?_, ?_⟩, ?_, ?_⟩
   ·rw [mkV, if_neg (by omega), if_neg (by unfold mkN; omega)]
   ·rw [mkW, if_neg (by omega), if_neg (by unfold mkN; omega)]
   ·exact (((((Only.refl g w).alloc _).trans ho).setCell (.inr (Nat.le_refl _)) _).setCell (.inr (Nat.le_refl _)) _).setCell (.inr (Nat.le_refl _)) _
   ·rw [mkC, if_neg (by omega)]
    exact ((hb'.far (by simp; omega) _).far (by simp; omega) _).far (by simp; omega) _
theorem rmake_any (g : Nat) (tv : Value) (c sp : Int) (s : ByteArray) (w : World) (h : RB w g tv c sp) (hs : 0 ≤ sp) (hc : sp ≤ c) (hc' : c ≤ 9223372036854775807) (hz : s.size ≤ 9223372036854775807) :
  Calls Tryz.prog 57 #[.pointer (some ⟨g, 0, none⟩), .string s] w fun e w' =>
   e = .returned (.tuple #[(mkV c sp s).v, .string (mkW c sp s)]) ∧ Only g w w' ∧ RB w' g tv c (mkC c sp s) := by
 have hg := h.lt
 by_cases hl : 1048576 < (s.size : Int)
 ·go_enter Tryz.func57, Tryz.ntmps57
  go_wp2
  refine bodyPost_ret (v := .tuple #[Vl.zero.v, .string sLong]) (by simp [results, Tryz.results57, go_sem, Vl.zero, sLong]) rfl ⟨ret2_of ⟨?_, ?_⟩, ?_, ?_⟩
  ·rw [mkV, if_pos hl]
  ·rw [mkW, if_pos hl]
  ·exact (Only.refl g w).alloc _
  ·rw [mkC, if_pos hl]; exact h.alloc _
 ·have hn : 0 ≤ (s.size : Int) / 16 := by omega
  have hn' : (s.size : Int) / 16 ≤ 65536 := by omega
  have hk : ¬ w.heap.size = g := by omega
  have hl' : ¬ 1048576 < (s.size : Int) := hl
  by_cases hq : (s.size : Int) / 16 + 1 ≤ c - sp
  ·have hb : tkB c sp ((s.size : Int) / 16 + 1) = true := (tkB_yes hq).symm
   go_enter Tryz.func57, Tryz.ntmps57
   go_wp2_with (first
    | (go_at_call 83; refine (rtake_any g tv c sp _ _ (h.alloc _) hs hc hc' (by omega) (by omega)).mono ?_; rintro e w' ⟨rfl, ho, hb'⟩; obtain ⟨q1, q2⟩ := ho.cells)
    | (go_at_call 84; refine (rtext_any _ _).mono ?_; rintro e w'' ⟨rfl, he⟩; have hz' := ho.lt1; obtain ⟨p1, p2⟩ := he.cells))
   refine bodyPost_ret (v := .tuple #[vv 3 0 s, .string sNone]) (by simp [results, Tryz.results57, go_sem, sNone, *]) rfl ⟨ret2_of ⟨?_, ?_⟩, ?_, ?_⟩
   ·rw [mkV, if_neg (by omega), if_pos (by unfold mkN; omega)]
   ·rw [mkW, if_neg (by omega), if_pos (by unfold mkN; omega)]
   ·exact ((((((Only.refl g w).alloc _).trans ho).ext he).setCell (.inr (Nat.le_refl _)) _).setCell (.inr (Nat.le_refl _)) _).setCell (.inr (Nat.le_refl _)) _
   ·rw [mkC, if_neg (by omega)]
    exact (((hb'.ext he).far (by simp; omega) _).far (by simp; omega) _).far (by simp; omega) _
  ·have hb : tkB c sp ((s.size : Int) / 16 + 1) = false := (tkB_no hq).symm
   go_enter Tryz.func57, Tryz.ntmps57
   go_wp2_with (first
    | (go_at_call 83; refine (rtake_any g tv c sp _ _ (h.alloc _) hs hc hc' (by omega) (by omega)).mono ?_; rintro e w' ⟨rfl, ho, hb'⟩; obtain ⟨q1, q2⟩ := ho.cells))
   refine bodyPost_ret (v := .tuple #[Vl.zero.v, .string sMemory]) (by simp [results, Tryz.results57, go_sem, sMemory, Vl.zero, *]) rfl ⟨ret2_of ⟨?_, ?_⟩, ?_, ?_⟩
   ·rw [mkV, if_neg (by omega), if_neg (by unfold mkN; omega)]
   ·rw [mkW, if_neg (by omega), if_neg (by unfold mkN; omega)]
   ·exact (((((Only.refl g w).alloc _).trans ho).setCell (.inr (Nat.le_refl _)) _).setCell (.inr (Nat.le_refl _)) _).setCell (.inr (Nat.le_refl _)) _
   ·rw [mkC, if_neg (by omega)]
    exact ((hb'.far (by simp; omega) _).far (by simp; omega) _).far (by simp; omega) _
end Go.Proofs.YtlfihdcgbhdajaaGreatDoor
namespace Go.Proofs.YtlfihdcgbhdajaaGreatDoor
open Go.RowKit
set_option linter.unusedVariables false
set_option linter.unusedSimpArgs false

instance : DecidableEq Vl := fun a b =>
 if h : a.k = b.k ∧ a.n = b.n ∧ a.s = b.s then .isTrue (by cases a; cases b; simp_all) else .isFalse (by rintro rfl; exact h ⟨rfl, rfl, rfl⟩)
theorem Vl.eta {a b : Vl} (h1 : a.k = b.k) (h2 : a.n = b.n) (h3 : a.s = b.s) : a = b := by cases a; cases b; simp_all
def sKey : ByteArray := ⟨#[107, 101, 121]⟩
abbrev Tb := List (Vl × Vl)
structure Hp where
 tabs : List Tb
 cells : Int
 spent : Int
def iK (n : Int) : Vl := ⟨2, n, sNone⟩
def tK (s : ByteArray) : Vl := ⟨3, 0, s⟩
theorem iK_inj {a b : Int} (h : iK a = iK b) : a = b := congrArg Vl.n h
theorem tK_inj {a b : ByteArray} (h : tK a = tK b) : a = b := congrArg Vl.s h
theorem iK_tK (a : Int) (b : ByteArray) : ¬ iK a = tK b := fun h => by have := congrArg Vl.k h; simp [iK, tK] at this
theorem tK_iK (a : Int) (b : ByteArray) : ¬ tK b = iK a := fun h => by have := congrArg Vl.k h; simp [iK, tK] at this
def in64 (n : Int) : Prop := -9223372036854775808 ≤ n ∧ n ≤ 9223372036854775807
structure KOk (k : Vl) : Prop where
 ck : k.ck = true
 kind : k.k = 2 ∨ k.k = 3
 num : in64 k.n
structure VOk (v : Vl) : Prop where
 ck : v.ck = true
 some : ¬ v.k = 0
 num : in64 v.n
structure TbOk (T : Tb) : Prop where
 once : Once T
 key : ∀ x ∈ T, KOk x.1
 val : ∀ x ∈ T, VOk x.2
 most : T.length ≤ 65536
structure HOk (H : Hp) : Prop where
 tab : ∀ T ∈ H.tabs, TbOk T
 low : 0 ≤ H.spent
 le : H.spent ≤ H.cells
 most : H.cells ≤ 9223372036854775807
theorem toList_nil {s : ByteArray} (h : s.toList = []) : s = sNone := by
 rw [Lib.toList_data] at h
 apply ByteArray.ext
 exact Array.toList_inj.1 (h.trans rfl)
theorem KOk.form {k : Vl} (h : KOk k) : (k.k = 2 ∧ k = iK k.n) ∨ (k.k = 3 ∧ k = tK k.s) := by
 have hc := h.ck
 unfold Vl.ck checkB at hc
 rcases h.kind with h2 | h3
 ·refine .inl ⟨h2, Vl.eta h2 rfl ?_⟩
  simp [h2] at hc
  exact toList_nil (by first | exact hc | simpa using hc)
 ·refine .inr ⟨h3, Vl.eta h3 ?_ rfl⟩
  simp [h3] at hc
  exact hc.1
theorem sNone_list : sNone.toList = [] := by rw [Lib.toList_data]; rfl
theorem ck_zero : Vl.zero.ck = true := by
 have : (⟨#[]⟩ : ByteArray).toList = [] := sNone_list
 simp [Vl.ck, checkB, Vl.zero, this]
def tget (T : Tb) (k : Vl) : Vl := (mget T k).getD Vl.zero
def tput (T : Tb) (k v : Vl) : Tb := if v.k = 0 then mdel T k else mput T k v
theorem mem_of_mget {κ β : Type} [DecidableEq κ] : ∀ {m : List (κ × β)} {k : κ} {v : β}, mget m k = some v → (k, v) ∈ m
 | x :: m, k, v, h => by
  unfold mget at h
  split at h
  ·rename_i hx
   obtain rfl := Option.some.inj h
   rw [← hx]
   exact List.mem_cons_self
  ·exact List.mem_cons_of_mem _ (mem_of_mget h)
theorem mget_of_mem {κ β : Type} [DecidableEq κ] : ∀ {m : List (κ × β)} {k : κ} {v : β}, Once m → (k, v) ∈ m → mget m k = some v
 | x :: m, k, v, ho, h => by
  unfold Once at ho
  rw [List.map_cons, List.nodup_cons] at ho
  unfold mget
  rcases List.mem_cons.1 h with h | h
  ·subst h; simp
  ·split
   ·rename_i hx
    exact absurd (List.mem_map_of_mem h (f := (·.1))) (by rw [← hx]; exact ho.1)
   ·exact mget_of_mem ho.2 h
theorem TbOk.some {T : Tb} (h : TbOk T) (k : Vl) : (tget T k).k = 0 ↔ mget T k = none := by
 unfold tget
 cases hm : mget T k with
 | none => simp [Vl.zero]
 | some v => simpa using (h.val _ (mem_of_mget hm)).some
theorem TbOk.got {T : Tb} (h : TbOk T) (k : Vl) : in64 (tget T k).n ∧ (tget T k).ck = true ∧ (tget T k).s.size ≤ 1048576 := by
 unfold tget
 cases hm : mget T k with
 | none => exact ⟨⟨by decide, by decide⟩, ck_zero, by decide⟩
 | some v =>
  have hv := h.val _ (mem_of_mget hm)
  refine ⟨hv.num, hv.ck, ?_⟩
  have hc := hv.ck
  unfold Vl.ck checkB at hc
  simp only [Option.getD_some]
  by_cases h3 : v.k = 3
  ·simp [h3] at hc
   omega
  ·have hz : v.s.toList = [] → v.s.size ≤ 1048576 := fun he => by rw [toList_nil he]; decide
   have h0 := hv.some
   by_cases h1 : v.k = 1
   ·simp [h1] at hc; exact hz (by simpa using hc.1)
   ·by_cases h2 : v.k = 2
    ·simp [h2] at hc; exact hz (by simpa using hc)
    ·by_cases h4 : v.k = 4
     ·simp [h4] at hc; exact hz (by simpa using hc.1)
     ·simp [h0, h1, h2, h3, h4] at hc
theorem len_del {κ β : Type} [DecidableEq κ] (m : List (κ × β)) (k : κ) (h : Once m) : (mdel m k).length = if mget m k = none then m.length else m.length - 1 := by
 have e := congrArg List.length (keys_del m k)
 rw [List.length_map] at e
 rw [e, List.length_erase]
 have hm := mget_mem m k
 by_cases hc : mget m k = none
 ·rw [if_pos hc, if_neg (hm.1 hc), List.length_map]
 ·rw [if_neg hc, if_pos (by
   rcases Decidable.em (k ∈ m.map (·.1)) with h | h
   ·exact h
   ·exact absurd (hm.2 h) hc), List.length_map]
theorem mem_put {κ β : Type} [DecidableEq κ] : ∀ {m : List (κ × β)} {k : κ} {v : β} {x : κ × β}, x ∈ mput m k v → x = (k, v) ∨ x ∈ m
 | [], k, v, x, h => .inl (by simpa [mput] using h)
 | y :: m, k, v, x, h => by
  unfold mput at h
  split at h
  ·rcases List.mem_cons.1 h with h | h
   ·exact .inl h
   ·exact .inr (List.mem_cons_of_mem _ h)
  ·rcases List.mem_cons.1 h with h | h
   ·exact .inr (by rw [h]; exact List.mem_cons_self)
   ·rcases mem_put h with h | h
    ·exact .inl h
    ·exact .inr (List.mem_cons_of_mem _ h)
theorem mem_del {κ β : Type} [DecidableEq κ] : ∀ {m : List (κ × β)} {k : κ} {x : κ × β}, x ∈ mdel m k → x ∈ m
 | [], k, x, h => h
 | y :: m, k, x, h => by
  unfold mdel at h
  split at h
  ·exact List.mem_cons_of_mem _ h
  ·rcases List.mem_cons.1 h with h | h
   ·rw [h]; exact List.mem_cons_self
   ·exact List.mem_cons_of_mem _ (mem_del h)
theorem TbOk.put {T : Tb} (h : TbOk T) {k v : Vl} (hk : KOk k) (hv : v.ck = true) (hn : in64 v.n) (hf : (tget T k).k = 0 → ¬ v.k = 0 → T.length < 65536) : TbOk (tput T k v) := by
 unfold tput
 split
 ·refine ⟨h.once.del k, fun x hx => h.key x (mem_del hx), fun x hx => h.val x (mem_del hx), ?_⟩
  rw [len_del T k h.once]
  have := h.most
  split <;> omega
 ·rename_i hz
  refine ⟨h.once.put k v, fun x hx => ?_, fun x hx => ?_, ?_⟩
  ·rcases mem_put hx with rfl | hx
   ·exact hk
   ·exact h.key x hx
  ·rcases mem_put hx with rfl | hx
   ·exact ⟨hv, hz, hn⟩
   ·exact h.val x hx
  ·rw [len_put]
   have := h.most
   split
   ·rename_i hm
    have := hf ((h.some k).2 hm) hz
    omega
   ·exact this
theorem tbOk_nil : TbOk [] := ⟨List.nodup_nil, fun x h => (List.not_mem_nil h).elim, fun x h => (List.not_mem_nil h).elim, Nat.zero_le _⟩
def lenFrom (T : Tb) : Nat → Nat → Nat
 | 0, n => n
 | f + 1, n => if (tget T (iK (n + 1))).k = 0 then n else lenFrom T f (n + 1)
def tlen (T : Tb) : Nat := lenFrom T T.length 0
theorem run_of_keys {T : Tb} (h : TbOk T) (n : Nat) (hn : ∀ i : Nat, i < n → ¬ (tget T (iK (i + 1))).k = 0) : n ≤ T.length := by
 have hs : ((List.range n).map fun i : Nat => iK (i + 1)).Nodup := by
  refine List.pairwise_map.2 ((List.pairwise_lt_range (n := n)).imp ?_)
  intro a b hab e
  have := iK_inj e
  omega
 have hsub : ((List.range n).map fun i : Nat => iK (i + 1)) ⊆ T.map (·.1) := by
  intro x hx
  obtain ⟨i, hi, rfl⟩ := List.mem_map.1 hx
  have := hn i (List.mem_range.1 hi)
  rw [h.some] at this
  rcases Decidable.em (iK (i + 1) ∈ T.map (·.1)) with hm | hm
  ·exact hm
  ·exact absurd ((mget_mem T _).2 hm) this
 have := hs.length_le_of_subset hsub
 simpa using this
theorem lenFrom_spec {T : Tb} (h : TbOk T) : ∀ (f n : Nat), n + f = T.length → (∀ i : Nat, i < n → ¬ (tget T (iK (i + 1))).k = 0) →
  (tget T (iK (lenFrom T f n + 1))).k = 0 ∧ ∀ i : Nat, i < lenFrom T f n → ¬ (tget T (iK (i + 1))).k = 0
 | 0, n, hf, hn => by
  refine ⟨?_, hn⟩
  unfold lenFrom
  rcases Decidable.em ((tget T (iK (n + 1))).k = 0) with hz | hz
  ·exact hz
  ·have := run_of_keys h (n + 1) (fun i hi => by
    rcases Nat.lt_or_ge i n with h1 | h1
    ·exact hn i h1
    ·obtain rfl : i = n := by omega
     exact hz)
   omega
 | f + 1, n, hf, hn => by
  unfold lenFrom
  split
  ·rename_i hz; exact ⟨hz, hn⟩
  ·rename_i hz
   exact lenFrom_spec h f (n + 1) (by omega) (fun i hi => by
    rcases Nat.lt_or_ge i n with h1 | h1
    ·exact hn i h1
    ·obtain rfl : i = n := by omega
     exact hz)
theorem tlen_end {T : Tb} (h : TbOk T) : (tget T (iK (tlen T + 1))).k = 0 := (lenFrom_spec h _ 0 (Nat.zero_add _) (fun i hi => by omega)).1
theorem tlen_in {T : Tb} (h : TbOk T) (i : Nat) (hi : i < tlen T) : ¬ (tget T (iK (i + 1))).k = 0 := (lenFrom_spec h _ 0 (Nat.zero_add _) (fun i hi => by omega)).2 i hi
theorem tlen_le {T : Tb} (h : TbOk T) : tlen T ≤ T.length := run_of_keys h _ (tlen_in h)
def intsOf (T : Tb) : List Int := (T.filter fun x => decide (x.1.k = 2)).map fun x => x.1.n
def textsOf (T : Tb) : List (List UInt8) := (T.filter fun x => decide (x.1.k = 3)).map fun x => x.1.s.data.toList
def keysL (T : Tb) : List Vl := ((intsOf T).mergeSort fun x y => decide (x ≤ y)).map iK ++ ((textsOf T).mergeSort fun x y => decide (x ≤ y)).map fun l => tK ⟨l.toArray⟩
theorem ba_eta (s : ByteArray) : (⟨s.data.toList.toArray⟩ : ByteArray) = s := by cases s; simp
theorem mem_ints {T : Tb} (h : TbOk T) (n : Int) : n ∈ intsOf T ↔ ¬ mget T (iK n) = none := by
 rw [mget_mem, Classical.not_not]
 unfold intsOf
 simp only [List.mem_map, List.mem_filter, decide_eq_true_eq]
 constructor
 ·rintro ⟨x, ⟨hx, hk⟩, rfl⟩
  refine ⟨x, hx, ?_⟩
  rcases (h.key x hx).form with ⟨_, h2⟩ | ⟨h3, _⟩
  ·exact h2
  ·omega
 ·rintro ⟨x, hx, e⟩
  exact ⟨x, ⟨hx, by rw [e]; rfl⟩, by rw [e]; rfl⟩
theorem mem_texts {T : Tb} (h : TbOk T) (l : List UInt8) : l ∈ textsOf T ↔ ¬ mget T (tK ⟨l.toArray⟩) = none := by
 rw [mget_mem, Classical.not_not]
 unfold textsOf
 simp only [List.mem_map, List.mem_filter, decide_eq_true_eq]
 constructor
 ·rintro ⟨x, ⟨hx, hk⟩, rfl⟩
  refine ⟨x, hx, ?_⟩
  rcases (h.key x hx).form with ⟨h2, _⟩ | ⟨_, h3⟩
  ·omega
  ·rw [ba_eta]; exact h3
 ·rintro ⟨x, hx, e⟩
  exact ⟨x, ⟨hx, by rw [e]; rfl⟩, by rw [e]; rfl⟩
theorem nodup_filter_map {α β : Type} {p : Vl × Vl → Bool} {f : Vl × Vl → β} {T : Tb} (ho : Once T) (hf : ∀ x ∈ T, ∀ y ∈ T, p x = true → p y = true → f x = f y → x.1 = y.1) : ((T.filter p).map f).Nodup := by
 induction T with
 | nil => exact List.nodup_nil
 | cons x T ih =>
  unfold Once at ho
  rw [List.map_cons, List.nodup_cons] at ho
  have ih := ih ho.2 (fun a ha b hb => hf a (List.mem_cons_of_mem _ ha) b (List.mem_cons_of_mem _ hb))
  rw [List.filter_cons]
  split
  ·rename_i hp
   rw [List.map_cons, List.nodup_cons]
   refine ⟨fun hm => ?_, ih⟩
   obtain ⟨y, hy, e⟩ := List.mem_map.1 hm
   obtain ⟨hy1, hy2⟩ := List.mem_filter.1 hy
   have := hf x List.mem_cons_self y (List.mem_cons_of_mem _ hy1) hp hy2 e.symm
   exact ho.1 (by rw [this]; exact List.mem_map_of_mem hy1)
  ·exact ih
theorem ints_nodup {T : Tb} (h : TbOk T) : (intsOf T).Nodup := nodup_filter_map (α := Int) h.once fun x hx y hy px py e => by
 rcases (h.key x hx).form with ⟨_, h2⟩ | ⟨h3, _⟩
 ·rcases (h.key y hy).form with ⟨_, h4⟩ | ⟨h5, _⟩
  ·rw [h2, h4, e]
  ·simp at py; omega
 ·simp at px; omega
theorem texts_nodup {T : Tb} (h : TbOk T) : (textsOf T).Nodup := nodup_filter_map (α := Int) h.once fun x hx y hy px py e => by
 rcases (h.key x hx).form with ⟨h2, _⟩ | ⟨_, h3⟩
 ·simp at px; omega
 ·rcases (h.key y hy).form with ⟨h4, _⟩ | ⟨_, h5⟩
  ·simp at py; omega
  ·rw [h3, h5, ← ba_eta x.1.s, ← ba_eta y.1.s, e]
theorem keys_len {T : Tb} (h : TbOk T) : (intsOf T).length + (textsOf T).length = T.length := by
 have e : (T.filter fun x => decide (x.1.k = 3)) = T.filter fun x => !decide (x.1.k = 2) := List.filter_congr fun x hx => by
  rcases (h.key x hx).kind with h2 | h3
  ·simp [h2]
  ·simp [h3]
 unfold intsOf textsOf
 rw [List.length_map, List.length_map, e]
 have := (List.filter_append_perm (fun x : Vl × Vl => decide (x.1.k = 2)) T).length_eq
 rw [List.length_append] at this
 exact this
structure TRep (mi : List (Int × Vl)) (mt : List (ByteArray × Vl)) (T : Tb) : Prop where
 oi : Once mi
 ot : Once mt
 ints : ∀ n, mget T (iK n) = mget mi n
 texts : ∀ s, mget T (tK s) = mget mt s
 count : T.length = mi.length + mt.length
theorem TRep.nil : TRep [] [] [] := ⟨List.nodup_nil, List.nodup_nil, fun _ => rfl, fun _ => rfl, rfl⟩
theorem TRep.puti {mi : List (Int × Vl)} {mt : List (ByteArray × Vl)} {T : Tb} (h : TRep mi mt T) (ho : Once T) (n : Int) (v : Vl) : TRep (mput mi n v) mt (mput T (iK n) v) :=
 ⟨h.oi.put n v, h.ot, fun j => by
  rw [mget_put, mget_put, h.ints]
  by_cases e : n = j
  ·rw [if_pos e, if_pos (by rw [e])]
  ·rw [if_neg e, if_neg (fun h => e (iK_inj h))], fun s => by
  rw [mget_put, if_neg (iK_tK n s), h.texts], by
  rw [len_put, len_put, h.ints, h.count]
  split <;> omega⟩
theorem TRep.putt {mi : List (Int × Vl)} {mt : List (ByteArray × Vl)} {T : Tb} (h : TRep mi mt T) (ho : Once T) (s : ByteArray) (v : Vl) : TRep mi (mput mt s v) (mput T (tK s) v) :=
 ⟨h.oi, h.ot.put s v, fun n => by
  rw [mget_put, if_neg (tK_iK n s), h.ints], fun j => by
  rw [mget_put, mget_put, h.texts]
  by_cases e : s = j
  ·rw [if_pos e, if_pos (by rw [e])]
  ·rw [if_neg e, if_neg (fun h => e (tK_inj h))], by
  rw [len_put, len_put, h.texts, h.count]
  split <;> omega⟩
theorem len_pos_of {κ β : Type} [DecidableEq κ] {m : List (κ × β)} {k : κ} (h : ¬ mget m k = none) : 0 < m.length := by
 cases m with
 | nil => exact absurd rfl h
 | cons _ _ => exact Nat.succ_pos _
theorem TRep.deli {mi : List (Int × Vl)} {mt : List (ByteArray × Vl)} {T : Tb} (h : TRep mi mt T) (ho : Once T) (n : Int) : TRep (mdel mi n) mt (mdel T (iK n)) :=
 ⟨h.oi.del n, h.ot, fun j => by
  rw [mget_del _ _ _ ho, mget_del _ _ _ h.oi, h.ints]
  by_cases e : n = j
  ·rw [if_pos e, if_pos (by rw [e])]
  ·rw [if_neg e, if_neg (fun h => e (iK_inj h))], fun s => by
  rw [mget_del _ _ _ ho, if_neg (iK_tK n s), h.texts], by
  rw [len_del _ _ ho, len_del _ _ h.oi, h.ints, h.count]
  split
  ·rfl
  ·rename_i hm
   have := len_pos_of hm
   omega⟩
theorem TRep.delt {mi : List (Int × Vl)} {mt : List (ByteArray × Vl)} {T : Tb} (h : TRep mi mt T) (ho : Once T) (s : ByteArray) : TRep mi (mdel mt s) (mdel T (tK s)) :=
 ⟨h.oi, h.ot.del s, fun n => by
  rw [mget_del _ _ _ ho, if_neg (tK_iK n s), h.ints], fun j => by
  rw [mget_del _ _ _ ho, mget_del _ _ _ h.ot, h.texts]
  by_cases e : s = j
  ·rw [if_pos e, if_pos (by rw [e])]
  ·rw [if_neg e, if_neg (fun h => e (tK_inj h))], by
  rw [len_del _ _ ho, len_del _ _ h.ot, h.texts, h.count]
  split
  ·rfl
  ·rename_i hm
   have := len_pos_of hm
   omega⟩
theorem TRep.keysi {mi : List (Int × Vl)} {mt : List (ByteArray × Vl)} {T : Tb} (h : TRep mi mt T) (hT : TbOk T) : (mi.map (·.1)).Perm (intsOf T) := by
 rw [List.perm_ext_iff_of_nodup h.oi (ints_nodup hT)]
 intro n
 rw [mem_ints hT, h.ints, mget_mem, Classical.not_not]
theorem TRep.keyst {mi : List (Int × Vl)} {mt : List (ByteArray × Vl)} {T : Tb} (h : TRep mi mt T) (hT : TbOk T) : (mt.map fun x => x.1.data.toList).Perm (textsOf T) := by
 have hn : (mt.map fun x => x.1.data.toList).Nodup := by
  have := h.ot
  unfold Once at this
  refine List.pairwise_map.2 ((List.pairwise_map.1 this).imp fun hab e => hab ?_)
  rw [← ba_eta (_ : ByteArray × Vl).1, e, ba_eta]
 rw [List.perm_ext_iff_of_nodup hn (texts_nodup hT)]
 intro l
 rw [mem_texts hT, h.texts, mget_mem, Classical.not_not]
 simp only [List.mem_map]
 constructor
 ·rintro ⟨x, hx, rfl⟩
  exact ⟨x, hx, by rw [ba_eta]⟩
 ·rintro ⟨x, hx, e⟩
  exact ⟨x, hx, by rw [e]⟩
structure TRow (L T : Tb) : Prop where
 once : Once L
 get : ∀ k, mget T k = mget L k
 count : T.length = L.length
theorem TRow.nil : TRow [] [] := ⟨List.nodup_nil, fun _ => rfl, rfl⟩
def drop1 (L : Tb) (k : Vl) : Tb := L.filter fun x => !decide (x.1 = k)
theorem mget_drop1 (L : Tb) (k j : Vl) : mget (drop1 L k) j = if k = j then none else mget L j := by
 unfold drop1
 induction L with
 | nil => simp [mget]
 | cons x L ih =>
  rw [List.filter_cons]
  by_cases hx : x.1 = k
  ·simp only [hx, decide_true, Bool.not_true, Bool.false_eq_true, if_false]
   rw [ih]
   by_cases e : k = j
   ·rw [if_pos e, if_pos e]
   ·rw [if_neg e, if_neg e, mget, if_neg (by rw [hx]; exact e)]
  ·simp only [hx, decide_false, Bool.not_false, if_true]
   unfold mget
   rw [ih]
   by_cases e : x.1 = j
   ·rw [if_pos e, if_pos e, if_neg (by rintro rfl; exact hx e)]
   ·rw [if_neg e, if_neg e]
theorem once_drop1 {L : Tb} (h : Once L) (k : Vl) : Once (drop1 L k) := by
 unfold Once drop1 at *
 exact List.Pairwise.sublist (List.filter_sublist.map _) h
theorem len_drop1 {L : Tb} (h : Once L) (k : Vl) : (drop1 L k).length = if mget L k = none then L.length else L.length - 1 := by
 unfold drop1
 induction L with
 | nil => simp [mget]
 | cons x L ih =>
  unfold Once at h
  rw [List.map_cons, List.nodup_cons] at h
  have ih := ih h.2
  rw [List.filter_cons]
  by_cases hx : x.1 = k
  ·have hm : mget L k = none := (mget_mem L k).2 (by rw [← hx]; exact h.1)
   rw [if_pos hm] at ih
   simp only [hx, decide_true, Bool.not_true, Bool.false_eq_true, if_false, mget, if_true, List.length_cons, reduceCtorEq]
   rw [ih]; omega
  ·simp only [hx, decide_false, Bool.not_false, if_true, mget, if_false, List.length_cons]
   rw [ih]
   split
   ·rfl
   ·rename_i hm
    have := len_pos_of hm
    omega
theorem TRow.del {L T : Tb} (h : TRow L T) (ho : Once T) (k : Vl) : TRow (drop1 L k) (mdel T k) :=
 ⟨once_drop1 h.once k, fun j => by rw [mget_del _ _ _ ho, mget_drop1, h.get], by rw [len_del _ _ ho, len_drop1 h.once, h.get, h.count]⟩
theorem mget_snoc {κ β : Type} [DecidableEq κ] : ∀ (m : List (κ × β)) (k j : κ) (v : β), mget m k = none → mget (m ++ [(k, v)]) j = if k = j then some v else mget m j
 | [], k, j, v, _ => by simp [mget]
 | x :: m, k, j, v, h => by
  unfold mget at h
  split at h
  ·cases h
  ·rename_i hx
   rw [List.cons_append]
   unfold mget
   rw [mget_snoc m k j v h]
   by_cases e : x.1 = j
   ·rw [if_pos e, if_pos e, if_neg (by rintro rfl; exact hx e)]
   ·rw [if_neg e, if_neg e]
theorem TRow.put {L T : Tb} (h : TRow L T) (ho : Once T) (k v : Vl) : TRow (drop1 L k ++ [(k, v)]) (mput T k v) := by
 have hg : mget (drop1 L k) k = none := by rw [mget_drop1, if_pos rfl]
 refine ⟨?_, fun j => ?_, ?_⟩
 ·have h1 := once_drop1 h.once k
  unfold Once at h1 ⊢
  rw [List.map_append, List.nodup_append]
  exact ⟨h1, by simp, fun a ha b hb e => (mget_mem _ _).1 hg (by simp at hb; subst hb; subst e; exact ha)⟩
 ·rw [mget_put, mget_snoc _ _ _ _ hg, mget_drop1, h.get]
  by_cases e : k = j
  ·rw [if_pos e, if_pos e]
  ·rw [if_neg e, if_neg e, if_neg e]
 ·rw [len_put, List.length_append, len_drop1 h.once, h.get, h.count]
  split
  ·rfl
  ·rename_i hm
   have := len_pos_of hm
   simp; omega
theorem TRow.keys {L T : Tb} (h : TRow L T) (hT : TbOk T) : (L.map (·.1)).Perm (T.map (·.1)) := by
 rw [List.perm_ext_iff_of_nodup h.once hT.once]
 intro k
 have h1 := mget_mem L k
 have h2 := mget_mem T k
 rw [← h.get, h2] at h1
 exact Decidable.not_iff_not.1 h1.symm
end Go.Proofs.YtlfihdcgbhdajaaGreatDoor
namespace Go.Proofs.YtlfihdcgbhdajaaGreatDoor
open Go.RowKit
set_option linter.unusedVariables false
set_option linter.unusedSimpArgs false

def ofW (H : Hp) (t : Vl) : ByteArray := if t.ck && decide (t.k = 4) then (if t.n < (H.tabs.length : Int) then sNone else sKey) else sType
def tabOf (H : Hp) (t : Vl) : Tb := H.tabs.getD t.n.toNat []
def getW (H : Hp) (t k : Vl) : ByteArray := if k.ck then (if ofW H t = sNone then (if k.k = 2 ∨ k.k = 3 then sNone else sKey) else ofW H t) else sType
def getV (H : Hp) (t k : Vl) : Vl := if getW H t k = sNone then tget (tabOf H t) k else Vl.zero
def freshB (H : Hp) (t k v : Vl) : Bool := decide ((getV H t k).k = 0) && !decide (v.k = 0)
def setW (H : Hp) (t k v : Vl) : ByteArray :=
 if v.ck then (if getW H t k = sNone then (if freshB H t k v then (if 65536 ≤ (tabOf H t).length then sLong else if 1 ≤ H.cells - H.spent then sNone else sMemory) else sNone) else getW H t k) else sType
def setH (H : Hp) (t k v : Vl) : Hp := if setW H t k v = sNone then ⟨H.tabs.set t.n.toNat (tput (tabOf H t) k v), H.cells, if freshB H t k v then H.spent + 1 else H.spent⟩ else H
def lenW (H : Hp) (v : Vl) : ByteArray := if v.ck && decide (v.k = 3) then sNone else ofW H v
def lenV (H : Hp) (v : Vl) : Int := if v.ck && decide (v.k = 3) then v.s.size else if ofW H v = sNone then tlen (tabOf H v) else 0
def tabW (H : Hp) : ByteArray := if 1 ≤ H.cells - H.spent then sNone else sMemory
def tabV (H : Hp) : Vl := if 1 ≤ H.cells - H.spent then ⟨4, H.tabs.length, sNone⟩ else Vl.zero
def tabH (H : Hp) : Hp := if 1 ≤ H.cells - H.spent then ⟨H.tabs ++ [[]], H.cells, H.spent + 1⟩ else H
def keysV (H : Hp) (t : Vl) : List Vl := if ofW H t = sNone then keysL (tabOf H t) else []
def mkH (H : Hp) (s : ByteArray) : Hp := { H with spent := mkC H.cells H.spent s }
def newH (c : Int) : Hp := ⟨[], max c 0, 0⟩
theorem sNone_ne : ¬ sKey = sNone ∧ ¬ sType = sNone ∧ ¬ sLong = sNone ∧ ¬ sMemory = sNone := by decide
theorem ofW_none {H : Hp} {t : Vl} (h : ofW H t = sNone) : t.ck = true ∧ t.k = 4 ∧ 0 ≤ t.n ∧ t.n < (H.tabs.length : Int) ∧ t.n.toNat < H.tabs.length := by
 unfold ofW at h
 split at h
 ·rename_i h1
  split at h
  ·rename_i h2
   simp only [Bool.and_eq_true, decide_eq_true_eq] at h1
   obtain ⟨hc, h4⟩ := h1
   have h0 : 0 ≤ t.n := by
    have := hc
    unfold Vl.ck checkB at this
    simp [h4] at this
    exact this.2
   exact ⟨hc, h4, h0, h2, by omega⟩
  ·exact absurd h sNone_ne.1
 ·exact absurd h sNone_ne.2.1
theorem tabOf_ok {H : Hp} (h : HOk H) {t : Vl} (ht : t.n.toNat < H.tabs.length) : TbOk (tabOf H t) := by
 unfold tabOf
 rw [List.getD_eq_getElem?_getD, List.getElem?_eq_getElem ht, Option.getD_some]
 exact h.tab _ (List.getElem_mem ht)
theorem tabOf_get {H : Hp} {t : Vl} (ht : t.n.toNat < H.tabs.length) : H.tabs[t.n.toNat]? = some (tabOf H t) := by
 unfold tabOf
 rw [List.getD_eq_getElem?_getD, List.getElem?_eq_getElem ht, Option.getD_some]
theorem getW_none {H : Hp} {t k : Vl} (h : getW H t k = sNone) : k.ck = true ∧ ofW H t = sNone ∧ (k.k = 2 ∨ k.k = 3) := by
 unfold getW at h
 split at h
 ·rename_i h1
  split at h
  ·rename_i h2
   split at h
   ·rename_i h3; exact ⟨h1, h2, h3⟩
   ·exact absurd h sNone_ne.1
  ·rename_i h2; exact absurd h h2
 ·exact absurd h sNone_ne.2.1
theorem getV_ok {H : Hp} (h : HOk H) (t k : Vl) : in64 (getV H t k).n ∧ (getV H t k).ck = true ∧ (getV H t k).s.size ≤ 1048576 := by
 unfold getV
 split
 ·rename_i hw
  obtain ⟨_, h2, _⟩ := getW_none hw
  exact (tabOf_ok h (ofW_none h2).2.2.2.2).got k
 ·exact ⟨⟨by decide, by decide⟩, ck_zero, by decide⟩
theorem ck_kind {v : Vl} (h : v.ck = true) : 0 ≤ v.k ∧ v.k ≤ 4 := by
 unfold Vl.ck checkB at h
 by_cases h0 : v.k = 0
 ·omega
 ·by_cases h1 : v.k = 1
  ·omega
  ·by_cases h2 : v.k = 2
   ·omega
   ·by_cases h3 : v.k = 3
    ·omega
    ·by_cases h4 : v.k = 4
     ·omega
     ·simp [h0, h1, h2, h3, h4] at h
theorem setW_none {H : Hp} {t k v : Vl} (h : setW H t k v = sNone) : v.ck = true ∧ getW H t k = sNone ∧ (freshB H t k v = true → (tabOf H t).length < 65536 ∧ 1 ≤ H.cells - H.spent) := by
 unfold setW at h
 split at h
 ·rename_i h1
  split at h
  ·rename_i h2
   refine ⟨h1, h2, fun hf => ?_⟩
   rw [if_pos hf] at h
   split at h
   ·exact absurd h sNone_ne.2.2.1
   ·split at h
    ·rename_i h3 h4; exact ⟨by omega, h4⟩
    ·exact absurd h sNone_ne.2.2.2
  ·rename_i h2; exact absurd h h2
 ·exact absurd h sNone_ne.2.1
theorem kOk_of {H : Hp} {t k : Vl} (h : getW H t k = sNone) (hk : in64 k.n) : KOk k := ⟨(getW_none h).1, (getW_none h).2.2, hk⟩
theorem setH_ok {H : Hp} (h : HOk H) {t k v : Vl} (hk : in64 k.n) (hv : in64 v.n) : HOk (setH H t k v) := by
 unfold setH
 split
 ·rename_i hw
  obtain ⟨h1, h2, h3⟩ := setW_none hw
  obtain ⟨g1, g2, g3⟩ := getW_none h2
  have ht := (ofW_none g2).2.2.2.2
  refine ⟨fun T hT => ?_, ?_, ?_, h.most⟩
  ·rcases List.mem_or_eq_of_mem_set hT with hT | rfl
   ·exact h.tab T hT
   ·refine (tabOf_ok h ht).put (kOk_of h2 hk) h1 hv fun hz hn => (h3 ?_).1
    unfold freshB getV
    rw [if_pos h2]
    simp [hz, hn]
  ·have := h.low
   show 0 ≤ if freshB H t k v = true then _ else _
   split <;> omega
  ·have := h.le
   show (if freshB H t k v = true then _ else _) ≤ _
   split
   ·rename_i hf
    have h6 := (h3 hf).2
    show H.spent + 1 ≤ H.cells
    omega
   ·exact this
 ·exact h
theorem setH_len {H : Hp} (t k v : Vl) : (setH H t k v).tabs.length = H.tabs.length := by
 unfold setH
 split
 ·exact List.length_set
 ·rfl
theorem tabH_ok {H : Hp} (h : HOk H) : HOk (tabH H) := by
 unfold tabH
 split
 ·refine ⟨fun T hT => ?_, ?_, ?_, h.most⟩
  ·rcases List.mem_append.1 hT with hT | hT
   ·exact h.tab T hT
   ·rw [List.mem_singleton] at hT; subst hT; exact tbOk_nil
  ·have := h.low; show 0 ≤ H.spent + 1; omega
  ·show H.spent + 1 ≤ H.cells; omega
 ·exact h
theorem mkC_le {c sp : Int} {s : ByteArray} (h : sp ≤ c) (h0 : 0 ≤ sp) : 0 ≤ mkC c sp s ∧ mkC c sp s ≤ c := by
 unfold mkC tk mkN
 split
 ·omega
 ·split <;> omega
theorem mkH_ok {H : Hp} (h : HOk H) (s : ByteArray) : HOk (mkH H s) := ⟨h.tab, (mkC_le h.le h.low).1, (mkC_le h.le h.low).2, h.most⟩
theorem newH_ok {c : Int} (h : c ≤ 9223372036854775807) : HOk (newH c) := ⟨fun T hT => (List.not_mem_nil hT).elim, Int.le_refl _, by show 0 ≤ max c 0; omega, by show max c 0 ≤ _; omega⟩
theorem lenW_none {H : Hp} {v : Vl} (h : lenW H v = sNone) (h3 : ¬ v.k = 3) : ofW H v = sNone := by
 unfold lenW at h
 rw [if_neg (by simp [h3])] at h
 exact h
end Go.Proofs.YtlfihdcgbhdajaaGreatDoor
namespace Go.Proofs.YtlfihdcgbhdajaaGreatDoor
open Go.RowKit
set_option linter.unusedVariables false
set_option linter.unusedSimpArgs false

def leK (a b : Vl) : Bool := decide (a.k < b.k) || decide (a.k = b.k) && (if a.k = 2 then decide (a.n ≤ b.n) else decide (a.s.data.toList ≤ b.s.data.toList))
theorem leK_total (a b : Vl) : (leK a b || leK b a) = true := by
 unfold leK
 by_cases h1 : a.k < b.k
 ·simp [h1]
 ·by_cases h2 : b.k < a.k
  ·simp [h2]
  ·have e : a.k = b.k := by omega
   by_cases h3 : b.k = 2
   ·simp [e, h3]; omega
   ·have := List.le_total a.s.data.toList b.s.data.toList
    simp [e, h3]
    exact this
theorem leK_trans (a b c : Vl) (h : leK a b = true) (k : leK b c = true) : leK a c = true := by
 unfold leK at *
 simp only [Bool.or_eq_true, Bool.and_eq_true, decide_eq_true_eq] at h k ⊢
 rcases h with h | ⟨h, h'⟩
 ·rcases k with k | ⟨k, k'⟩
  ·exact .inl (by omega)
  ·exact .inl (by omega)
 ·rcases k with k | ⟨k, k'⟩
  ·exact .inl (by omega)
  ·refine .inr ⟨by omega, ?_⟩
   by_cases h3 : a.k = 2
   ·have h4 : b.k = 2 := by omega
    rw [if_pos h3] at h' ⊢
    rw [if_pos h4] at k'
    simp only [decide_eq_true_eq] at *
    omega
   ·have h4 : ¬ b.k = 2 := by omega
    rw [if_neg h3] at h' ⊢
    rw [if_neg h4] at k'
    simp only [decide_eq_true_eq] at *
    exact List.le_trans h' k'
theorem leK_antisymm {a b : Vl} (ha : KOk a) (hb : KOk b) (h : leK a b = true) (k : leK b a = true) : a = b := by
 unfold leK at *
 simp only [Bool.or_eq_true, Bool.and_eq_true, decide_eq_true_eq] at h k
 have e : a.k = b.k := by omega
 rcases h with h | ⟨_, h⟩
 ·omega
 rcases k with k | ⟨_, k⟩
 ·omega
 rcases ha.form with ⟨a2, ea⟩ | ⟨a3, ea⟩
 ·rcases hb.form with ⟨b2, eb⟩ | ⟨b3, eb⟩
  ·rw [if_pos a2] at h
   rw [if_pos b2] at k
   simp only [decide_eq_true_eq] at h k
   rw [ea, eb]
   congr 1
   omega
  ·omega
 ·rcases hb.form with ⟨b2, eb⟩ | ⟨b3, eb⟩
  ·omega
  ·rw [if_neg (by omega)] at h k
   simp only [decide_eq_true_eq] at h k
   have := List.le_antisymm h k
   rw [ea, eb, ← ba_eta a.s, ← ba_eta b.s, this]
def posK (k : Vl) (out : List Vl) : Nat → Nat
 | 0 => 0
 | n + 1 => if leK (out.getD n Vl.zero) k then n + 1 else posK k out n
def insK (k : Vl) (out : List Vl) : List Vl := out.take (posK k out out.length) ++ k :: out.drop (posK k out out.length)
theorem posK_le (k : Vl) (out : List Vl) : ∀ n, posK k out n ≤ n
 | 0 => Nat.le_refl _
 | n + 1 => by
  unfold posK
  split
  ·exact Nat.le_refl _
  ·exact Nat.le_succ_of_le (posK_le k out n)
theorem insK_perm (k : Vl) (out : List Vl) : (insK k out).Perm (k :: out) := by
 unfold insK
 have := List.perm_middle (a := k) (l₁ := out.take (posK k out out.length)) (l₂ := out.drop (posK k out out.length))
 rwa [List.take_append_drop] at this
theorem posK_above (k : Vl) (out : List Vl) : ∀ n j, posK k out n ≤ j → j < n → leK (out.getD j Vl.zero) k = false
 | 0, j, _, h => by omega
 | n + 1, j, h, hj => by
  unfold posK at h
  split at h
  ·omega
  ·rename_i hn
   rcases Nat.lt_or_ge j n with h1 | h1
   ·exact posK_above k out n j h h1
   ·obtain rfl : j = n := by omega
    simpa using hn
theorem posK_below (k : Vl) (out : List Vl) : ∀ n, 0 < posK k out n → leK (out.getD (posK k out n - 1) Vl.zero) k = true
 | 0, h => by simp [posK] at h
 | n + 1, h => by
  unfold posK at h ⊢
  split
  ·rename_i hn; simpa using hn
  ·rename_i hn
   rw [if_neg hn] at h
   exact posK_below k out n h
theorem insK_sorted {k : Vl} {out : List Vl} (h : out.Pairwise fun a b => leK a b = true) : (insK k out).Pairwise fun a b => leK a b = true := by
 have hp := posK_le k out out.length
 unfold insK
 rw [List.pairwise_append, List.pairwise_cons]
 have hlow : ∀ a ∈ out.take (posK k out out.length), leK a k = true := by
  intro a ha
  obtain ⟨j, hj, rfl⟩ := List.mem_iff_getElem.1 ha
  rw [List.length_take] at hj
  rw [List.getElem_take]
  have h1 := posK_below k out out.length (by omega)
  rw [List.getD_eq_getElem?_getD, List.getElem?_eq_getElem (by omega), Option.getD_some] at h1
  rcases Nat.lt_or_ge j (posK k out out.length - 1) with h2 | h2
  ·exact leK_trans _ _ _ (List.pairwise_iff_getElem.1 h j _ (by omega) (by omega) h2) h1
  ·obtain rfl : j = posK k out out.length - 1 := by omega
   exact h1
 have hup : ∀ b ∈ out.drop (posK k out out.length), leK k b = true := by
  intro b hb
  obtain ⟨j, hj, rfl⟩ := List.mem_iff_getElem.1 hb
  rw [List.length_drop] at hj
  rw [List.getElem_drop]
  have h1 := posK_above k out out.length (posK k out out.length + j) (by omega) (by omega)
  rw [List.getD_eq_getElem?_getD, List.getElem?_eq_getElem (by omega), Option.getD_some] at h1
  have := leK_total k out[posK k out out.length + j]
  rw [h1, Bool.or_false] at this
  exact this
 refine ⟨h.sublist (List.take_sublist _ _), ⟨hup, h.sublist (List.drop_sublist _ _)⟩, fun a ha b hb => ?_⟩
 rcases List.mem_cons.1 hb with rfl | hb
 ·exact hlow a ha
 ·exact leK_trans _ _ _ (hlow a ha) (hup b hb)
def keysR (l : List Vl) : List Vl := l.foldl (fun out k => insK k out) []
theorem keysR_spec (l : List Vl) : ∀ out, (out.Pairwise fun a b => leK a b = true) → (l.foldl (fun out k => insK k out) out).Perm (l ++ out) ∧ (l.foldl (fun out k => insK k out) out).Pairwise fun a b => leK a b = true := by
 induction l with
 | nil => exact fun out h => ⟨List.Perm.refl _, h⟩
 | cons k l ih =>
  intro out h
  obtain ⟨h1, h2⟩ := ih (insK k out) (insK_sorted h)
  refine ⟨h1.trans ?_, h2⟩
  refine (List.Perm.append_left l (insK_perm k out)).trans ?_
  rw [List.cons_append]
  exact List.perm_middle
theorem keysL_sorted (T : Tb) : (keysL T).Pairwise fun a b => leK a b = true := by
 unfold keysL
 rw [List.pairwise_append, List.pairwise_map, List.pairwise_map]
 refine ⟨?_, ?_, fun a ha b hb => ?_⟩
 ·refine (List.pairwise_mergeSort (fun a b c h k => ?_) (fun a b => ?_) _).imp ?_
  ·simp only [decide_eq_true_eq] at *; omega
  ·simp only [Bool.or_eq_true, decide_eq_true_eq]; omega
  ·intro a b h
   simp only [decide_eq_true_eq] at h
   simp [leK, iK, h]
 ·refine (List.pairwise_mergeSort (fun a b c h k => ?_) (fun a b => ?_) _).imp ?_
  ·simp only [decide_eq_true_eq] at *; exact List.le_trans h k
  ·simp only [Bool.or_eq_true, decide_eq_true_eq]; exact List.le_total a b
  ·intro a b h
   simp only [decide_eq_true_eq] at h
   simp [leK, tK, h]
 ·obtain ⟨n, _, rfl⟩ := List.mem_map.1 ha
  obtain ⟨s, _, rfl⟩ := List.mem_map.1 hb
  simp [leK, iK, tK]
theorem keysL_mem {T : Tb} (h : TbOk T) (k : Vl) : k ∈ keysL T ↔ k ∈ T.map (·.1) := by
 unfold keysL
 rw [List.mem_append, List.mem_map, List.mem_map]
 have hk : k ∈ T.map (·.1) ↔ ¬ mget T k = none := by rw [mget_mem, Classical.not_not]
 rw [hk]
 constructor
 ·rintro (⟨n, hn, rfl⟩ | ⟨l, hl, rfl⟩)
  ·exact (mem_ints h n).1 ((List.mergeSort_perm _ _).mem_iff.1 hn)
  ·exact (mem_texts h l).1 ((List.mergeSort_perm _ _).mem_iff.1 hl)
 ·intro hm
  obtain ⟨x, hx, rfl⟩ := List.mem_map.1 (hk.2 hm)
  rcases (h.key x hx).form with ⟨_, e⟩ | ⟨_, e⟩
  ·rw [e] at hm ⊢
   exact .inl ⟨_, (List.mergeSort_perm _ _).mem_iff.2 ((mem_ints h _).2 hm), rfl⟩
  ·rw [e] at hm ⊢
   refine .inr ⟨x.1.s.data.toList, (List.mergeSort_perm _ _).mem_iff.2 ((mem_texts h _).2 (by rw [ba_eta]; exact hm)), by rw [ba_eta]⟩
theorem keysL_perm {T : Tb} (h : TbOk T) : (keysL T).Perm (T.map (·.1)) := by
 have hn : (keysL T).Nodup := by
  unfold keysL
  rw [List.nodup_append]
  refine ⟨?_, ?_, ?_⟩
  ·exact List.pairwise_map.2 (((List.mergeSort_perm _ _).nodup_iff.2 (ints_nodup h)).imp fun hab e => hab (iK_inj e))
  ·refine List.pairwise_map.2 (((List.mergeSort_perm _ _).nodup_iff.2 (texts_nodup h)).imp fun hab e => hab ?_)
   have := congrArg (fun s : ByteArray => s.data.toList) (tK_inj e)
   simpa using this
  ·intro a ha b hb e
   obtain ⟨n, _, rfl⟩ := List.mem_map.1 ha
   obtain ⟨s, _, rfl⟩ := List.mem_map.1 hb
   exact iK_tK _ _ e
 exact (List.perm_ext_iff_of_nodup hn h.once).2 fun k => keysL_mem h k
theorem keysL_len {T : Tb} (h : TbOk T) : (keysL T).length = T.length := by rw [(keysL_perm h).length_eq, List.length_map]
theorem keysL_ok {T : Tb} (h : TbOk T) : ∀ k ∈ keysL T, KOk k := by
 intro k hk
 obtain ⟨x, hx, rfl⟩ := List.mem_map.1 ((keysL_mem h k).1 hk)
 exact h.key x hx
theorem keysR_eq {L T : Tb} (h : TRow L T) (hT : TbOk T) : keysR (L.map (·.1)) = keysL T := by
 obtain ⟨h1, h2⟩ := keysR_spec (L.map (·.1)) [] List.Pairwise.nil
 rw [List.append_nil] at h1
 have hp : (keysR (L.map (·.1))).Perm (keysL T) := (h1.trans (h.keys hT)).trans (keysL_perm hT).symm
 exact List.Perm.eq_of_pairwise (le := fun a b => leK a b = true) (fun a b ha hb hab hba => leK_antisymm (keysL_ok hT a (hp.mem_iff.1 ha)) (keysL_ok hT b hb) hab hba) h2 (keysL_sorted T) hp
end Go.Proofs.YtlfihdcgbhdajaaGreatDoor
