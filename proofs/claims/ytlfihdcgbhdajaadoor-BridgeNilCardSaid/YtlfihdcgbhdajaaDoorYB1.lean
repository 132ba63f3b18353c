/- Contracts of the leaf functions of package values (layer 14) and of its reference: sums, differences, quotients, values, checks. Contracts of values' makers, of what may be a value, of a heap's maker; and of their twins in the reference of layer 14. Heaps are made. Cells are taken from a heap, and told. Values in three fields; two are the same; texts are made. Heaps of tables in plain words: what is under a key, what is put, how long a table is, its keys; how two maps, or two rows, stand for a table. What is told by a heap, and how it is behind each of its deeds. The keys of a table in order, by insertion one by one, are the sorted ones. -/
import Derived.Test.YtlfihdcgbhdajaaDoorYA1
import Derived.Test.YtlfihdcgbhdajaaDoorProg
import Derived.Test.YtlfihdcgbhdajaaDoorYShelf
import Derived.Lib.Strings
namespace Go.Proofs.YtlfihdcgbhdajaaDoor
open Go.RowKit
set_option linter.unusedVariables false

def turns (a b : Int) : Prop := (a.tmod b < 0 ∧ 0 < b) ∨ (0 < a.tmod b ∧ b < 0)
instance (a b : Int) : Decidable (turns a b) := inferInstanceAs (Decidable ((a.tmod b < 0 ∧ 0 < b) ∨ (0 < a.tmod b ∧ b < 0)))
end Go.Proofs.YtlfihdcgbhdajaaDoor
namespace Go.Proofs.YtlfihdcgbhdajaaDoor
open Go.RowKit
set_option linter.unusedVariables false

abbrev vv (k n : Int) (s : ByteArray) : Value := .agg #[.int .i64 k, .int .i64 n, .string s]
theorem int_any (n : Int) (w : World) : Calls Tryd.prog 16 #[.int .i64 n] w fun e w' => e = .returned (vv 2 n ⟨#[]⟩) ∧ Ext w w' := by
 go_enter Tryd.func16, Tryd.ntmps16
 go_wp2
 exact bodyPost_ret (v := vv 2 n ⟨#[]⟩) (by simp [results, Tryd.results16, go_sem]) rfl ⟨rfl, (Ext.refl w).alloc _⟩
theorem text_any (s : ByteArray) (w : World) : Calls Tryd.prog 19 #[.string s] w fun e w' => e = .returned (vv 3 0 s) ∧ Ext w w' := by
 go_enter Tryd.func19, Tryd.ntmps19
 go_wp2
 exact bodyPost_ret (v := vv 3 0 s) (by simp [results, Tryd.results19, go_sem]) rfl ⟨rfl, (Ext.refl w).alloc _⟩
def b2i (b : Bool) : Int := if b then 1 else 0
theorem bool_any (b : Bool) (w : World) : Calls Tryd.prog 13 #[.bool b] w fun e w' => e = .returned (vv 1 (b2i b) ⟨#[]⟩) ∧ Ext w w' := by
 cases b
 all_goals go_enter Tryd.func13, Tryd.ntmps13
 all_goals go_wp2
 ·exact bodyPost_ret (v := vv 1 0 ⟨#[]⟩) (by simp [results, Tryd.results13, go_sem]) rfl ⟨rfl, (Ext.refl w).alloc _⟩
 ·exact bodyPost_ret (v := vv 1 1 ⟨#[]⟩) (by simp [results, Tryd.results13, go_sem]) rfl ⟨rfl, (Ext.refl w).alloc _⟩
def checkB (k n : Int) (s : ByteArray) : Bool :=
 if k = 0 then n == 0 && s.toList.isEmpty else if k = 1 then s.toList.isEmpty && (n == 0 || n == 1) else if k = 2 then s.toList.isEmpty
 else if k = 3 then n == 0 && decide (s.size ≤ 1048576) else if k = 4 then s.toList.isEmpty && decide (0 ≤ n) else false
theorem check_any (k n : Int) (s : ByteArray) (w : World) : Calls Tryd.prog 34 #[vv k n s] w fun e w' => e = .returned (.bool (checkB k n s)) ∧ Ext w w' := by
 by_cases h0 : k = 0
 ·subst h0
  go_enter Tryd.func34, Tryd.ntmps34
  go_wp2
  all_goals (go_ret; go_tidy; refine ⟨ret_of (bool_eq ?_), (Ext.refl w).alloc _⟩)
  all_goals (first | (simp_all [checkB]; done) | (simp_all [checkB]; omega))
 by_cases h1 : k = 1
 ·subst h1
  go_enter Tryd.func34, Tryd.ntmps34
  go_wp2
  all_goals (go_ret; go_tidy; refine ⟨ret_of (bool_eq ?_), (Ext.refl w).alloc _⟩)
  all_goals (first | (simp_all [checkB]; done) | (simp_all [checkB]; omega))
 by_cases h2 : k = 2
 ·subst h2
  go_enter Tryd.func34, Tryd.ntmps34
  go_wp2
  all_goals (go_ret; go_tidy; refine ⟨ret_of (bool_eq ?_), (Ext.refl w).alloc _⟩)
  all_goals (first | (simp_all [checkB]; done) | (simp_all [checkB]; omega))
 by_cases h3 : k = 3
 ·subst h3
  go_enter Tryd.func34, Tryd.ntmps34
  go_wp2
  all_goals (go_ret; go_tidy; refine ⟨ret_of (bool_eq ?_), (Ext.refl w).alloc _⟩)
  all_goals (first | (simp_all [checkB]; done) | (simp_all [checkB]; omega))
 by_cases h4 : k = 4
 ·subst h4
  go_enter Tryd.func34, Tryd.ntmps34
  go_wp2
  all_goals (go_ret; go_tidy; refine ⟨ret_of (bool_eq ?_), (Ext.refl w).alloc _⟩)
  all_goals (first | (simp_all [checkB]; done) | (simp_all [checkB]; omega))
 ·go_enter Tryd.func34, Tryd.ntmps34
  go_wp2
  all_goals (go_ret; go_tidy; refine ⟨ret_of (bool_eq ?_), (Ext.refl w).alloc _⟩)
  all_goals (first | (simp_all [checkB]; done) | (simp_all [checkB]; omega))
end Go.Proofs.YtlfihdcgbhdajaaDoor
namespace Go.Proofs.YtlfihdcgbhdajaaDoor
open Go.RowKit
set_option linter.unusedVariables false

theorem new_any (c : Int) (w : World) (hc : c ≤ 9223372036854775807) (hc' : -9223372036854775808 ≤ c) : Calls Tryd.prog 10 #[.int .i64 c] w fun e w' =>
  e = .returned (.pointer (some ⟨w.heap.size, 0, none⟩)) ∧ w.alloc (.cells #[.slice none 0 0, .int .i64 (max c 0), .int .i64 0] 67) = w' := by
 rcases (by omega : c < 0 ∨ 0 ≤ c) with h0 | h0
 ·have e : max c 0 = 0 := by omega
  rw [e]
  clear e
  go_enter Tryd.func10, Tryd.ntmps10
  go_wp2
  go_ret
  exact ⟨rfl, by first | rfl | (congr; omega) | (rw [show max c 0 = 0 by omega]) | (rw [show max c 0 = c by omega])⟩
 ·have e : max c 0 = c := by omega
  rw [e]
  clear e
  go_enter Tryd.func10, Tryd.ntmps10
  go_wp2
  go_ret
  exact ⟨rfl, by first | rfl | (congr; omega) | (rw [show max c 0 = 0 by omega]) | (rw [show max c 0 = c by omega])⟩
end Go.Proofs.YtlfihdcgbhdajaaDoor
namespace Go.Proofs.YtlfihdcgbhdajaaDoor
open Go.RowKit
set_option linter.unusedVariables false

def tkB (c s n : Int) : Bool := decide (n ≤ c - s)
def tk (c s n : Int) : Int := if n ≤ c - s then s + n else s
theorem tkB_yes {c s n : Int} (h : n ≤ c - s) : true = tkB c s n := by simp [tkB, h]
theorem tkB_no {c s n : Int} (h : ¬ n ≤ c - s) : false = tkB c s n := by simp [tkB, h]
theorem tk_yes {c s n : Int} (h : n ≤ c - s) : tk c s n = s + n := if_pos h
theorem tk_no {c s n : Int} (h : ¬ n ≤ c - s) : tk c s n = s := if_neg h
theorem take_any (g : Nat) (tv : Value) (c s n : Int) (w : World) (h : Blk w g 67 #[tv, .int .i64 c, .int .i64 s]) (hs : 0 ≤ s) (hc : s ≤ c) (hc' : c ≤ 9223372036854775807) (hn : 0 ≤ n) (hn' : n ≤ 4611686018427387903) :
  Calls Tryd.prog 36 #[.pointer (some ⟨g, 0, none⟩), .int .i64 n] w fun e w' =>
   e = .returned (.bool (tkB c s n)) ∧ Only g w w' ∧ Blk w' g 67 #[tv, .int .i64 c, .int .i64 (tk c s n)] := by
 have c1 : w.cell? ⟨g, 1, none⟩ = some (.int .i64 c) := h.cell 1
 have c2 : w.cell? ⟨g, 2, none⟩ = some (.int .i64 s) := h.cell 2
 have f2 : w.frozen? ⟨g, 2, none⟩ = false := h.frozen 2
 have e1 : IntKind.i64.wrap (c - s) = c - s := IntWalk.i64_in _ (by omega)
 by_cases hq : n ≤ c - s
 ·have hd : decide (c - s < n) = false := by simp; omega
  go_enter Tryd.func36, Tryd.ntmps36
  go_wp2
  go_quiet (fail)
  clear hd e1
  go_wp2
  go_ret
  refine ⟨ret_of (bool_eq (tkB_yes hq)), ((Only.refl g w).ext ((Ext.refl w).drewN _)).setCell (.inl rfl) _, ?_⟩
  rw [tk_yes hq]
  exact (h.drewN _).set_ 2 _
 ·have hd : decide (c - s < n) = true := by simp; omega
  go_enter Tryd.func36, Tryd.ntmps36
  go_wp2
  go_quiet (fail)
  clear hd e1
  go_wp2
  go_ret
  refine ⟨ret_of (bool_eq (tkB_no (by omega))), (Only.refl g w).ext ((Ext.refl w).drewN _), ?_⟩
  rw [tk_no (by omega)]
  exact h.drewN _
theorem spent_any (g : Nat) (tv : Value) (c s : Int) (w : World) (h : Blk w g 67 #[tv, .int .i64 c, .int .i64 s]) :
  Calls Tryd.prog 11 #[.pointer (some ⟨g, 0, none⟩)] w fun e w' => e = .returned (.int .i64 s) ∧ Ext w w' := by
 have c2 : w.cell? ⟨g, 2, none⟩ = some (.int .i64 s) := h.cell 2
 go_enter Tryd.func11, Tryd.ntmps11
 go_wp2
 go_ret
 exact ⟨rfl, Ext.refl w⟩
end Go.Proofs.YtlfihdcgbhdajaaDoor
namespace Go.Proofs.YtlfihdcgbhdajaaDoor
open Go.RowKit
set_option linter.unusedVariables false

structure Vl where
 k : Int
 n : Int
 s : ByteArray
abbrev Vl.v (x : Vl) : Value := .agg #[.int .i64 x.k, .int .i64 x.n, .string x.s]
def Vl.zero : Vl := ⟨0, 0, ⟨#[]⟩⟩
def Vl.ck (x : Vl) : Bool := checkB x.k x.n x.s
def sNone : ByteArray := ⟨#[]⟩
def sMemory : ByteArray := ⟨#[109, 101, 109, 111, 114, 121]⟩
def sLong : ByteArray := ⟨#[108, 111, 110, 103]⟩
def sType : ByteArray := ⟨#[116, 121, 112, 101]⟩
def mkN (s : ByteArray) : Int := (s.size : Int) / 16 + 1
def mkV (c sp : Int) (s : ByteArray) : Vl := if 1048576 < (s.size : Int) then .zero else if mkN s ≤ c - sp then ⟨3, 0, s⟩ else .zero
def mkW (c sp : Int) (s : ByteArray) : ByteArray := if 1048576 < (s.size : Int) then sLong else if mkN s ≤ c - sp then sNone else sMemory
def mkC (c sp : Int) (s : ByteArray) : Int := if 1048576 < (s.size : Int) then sp else tk c sp (mkN s)
abbrev HB (w : World) (g : Nat) (tv : Value) (c s : Int) : Prop := Blk w g 67 #[tv, .int .i64 c, .int .i64 s]
theorem make_any (g : Nat) (tv : Value) (c sp : Int) (s : ByteArray) (w : World) (h : HB w g tv c sp) (hs : 0 ≤ sp) (hc : sp ≤ c) (hc' : c ≤ 9223372036854775807) (hz : s.size ≤ 9223372036854775807) :
  Calls Tryd.prog 28 #[.pointer (some ⟨g, 0, none⟩), .string s] w fun e w' =>
   e = .returned (.tuple #[(mkV c sp s).v, .string (mkW c sp s)]) ∧ Only g w w' ∧ HB w' g tv c (mkC c sp s) := by
 have hg := h.lt
 by_cases hl : 1048576 < (s.size : Int)
 ·go_enter Tryd.func28, Tryd.ntmps28
  go_wp2
  refine bodyPost_ret (v := .tuple #[Vl.zero.v, .string sLong]) (by simp [results, Tryd.results28, go_sem, Vl.zero, sLong]) rfl ⟨ret2_of ⟨?_, ?_⟩, ?_, ?_⟩
  ·rw [mkV, if_pos hl]
  ·rw [mkW, if_pos hl]
  ·exact (Only.refl g w).alloc _
  ·rw [mkC, if_pos hl]; exact h.alloc _
 ·have hn : 0 ≤ (s.size : Int) / 16 := by omega
  have hn' : (s.size : Int) / 16 ≤ 65536 := by omega
  have hk : ¬ w.heap.size = g := by omega
  have hl' : ¬ 1048576 < (s.size : Int) := hl
  by_cases hq : (s.size : Int) / 16 + 1 ≤ c - sp
  ·have hb : tkB c sp ((s.size : Int) / 16 + 1) = true := (tkB_yes hq).symm
   go_enter Tryd.func28, Tryd.ntmps28
   go_wp2_with (first
    | (go_at_call 36; refine (take_any g tv c sp _ _ (h.alloc _) hs hc hc' (by omega) (by omega)).mono ?_; rintro e w' ⟨rfl, ho, hb'⟩; obtain ⟨q1, q2⟩ := ho.cells)
    | (go_at_call 19; refine (text_any _ _).mono ?_; rintro e w'' ⟨rfl, he⟩; have hz' := ho.lt1; obtain ⟨p1, p2⟩ := he.cells))
   refine bodyPost_ret (v := .tuple #[vv 3 0 s, .string sNone]) (by simp [results, Tryd.results28, go_sem, sNone, *]) rfl ⟨ret2_of ⟨?_, ?_⟩, ?_, ?_⟩
   ·rw [mkV, if_neg (by omega), if_pos (by unfold mkN; omega)]
   ·rw [mkW, if_neg (by omega), if_pos (by unfold mkN; omega)]
   ·exact ((((((Only.refl g w).alloc _).trans ho).ext he).setCell (.inr (Nat.le_refl _)) _).setCell (.inr (Nat.le_refl _)) _).setCell (.inr (Nat.le_refl _)) _
   ·rw [mkC, if_neg (by omega)]
    exact (((hb'.ext he).far (by simp; omega) _).far (by simp; omega) _).far (by simp; omega) _
  ·have hb : tkB c sp ((s.size : Int) / 16 + 1) = false := (tkB_no hq).symm
   go_enter Tryd.func28, Tryd.ntmps28
   go_wp2_with (first
    | (go_at_call 36; refine (take_any g tv c sp _ _ (h.alloc _) hs hc hc' (by omega) (by omega)).mono ?_; rintro e w' ⟨rfl, ho, hb'⟩; obtain ⟨q1, q2⟩ := ho.cells))
   refine bodyPost_ret (v := .tuple #[Vl.zero.v, .string sMemory]) (by simp [results, Tryd.results28, go_sem, sMemory, Vl.zero, *]) rfl ⟨ret2_of ⟨?_, ?_⟩, ?_, ?_⟩
   ·rw [mkV, if_neg (by omega), if_neg (by unfold mkN; omega)]
   ·rw [mkW, if_neg (by omega), if_neg (by unfold mkN; omega)]
   ·exact (((((Only.refl g w).alloc _).trans ho).setCell (.inr (Nat.le_refl _)) _).setCell (.inr (Nat.le_refl _)) _).setCell (.inr (Nat.le_refl _)) _
   ·rw [mkC, if_neg (by omega)]
    exact ((hb'.far (by simp; omega) _).far (by simp; omega) _).far (by simp; omega) _
end Go.Proofs.YtlfihdcgbhdajaaDoor
namespace Go.Proofs.YtlfihdcgbhdajaaDoor
open Go.RowKit
set_option linter.unusedVariables false
set_option linter.unusedSimpArgs false

instance : DecidableEq Vl := fun a b =>
 if h : a.k = b.k ∧ a.n = b.n ∧ a.s = b.s then .isTrue (by cases a; cases b; simp_all) else .isFalse (by rintro rfl; exact h ⟨rfl, rfl, rfl⟩)
theorem Vl.eta {a b : Vl} (h1 : a.k = b.k) (h2 : a.n = b.n) (h3 : a.s = b.s) : a = b := by cases a; cases b; simp_all
def sKey : ByteArray := ⟨#[107, 101, 121]⟩
abbrev Tb := List (Vl × Vl)
structure Hp where
 tabs : List Tb
 cells : Int
 spent : Int
def iK (n : Int) : Vl := ⟨2, n, sNone⟩
def tK (s : ByteArray) : Vl := ⟨3, 0, s⟩
theorem iK_inj {a b : Int} (h : iK a = iK b) : a = b := congrArg Vl.n h
theorem tK_inj {a b : ByteArray} (h : tK a = tK b) : a = b := congrArg Vl.s h
theorem iK_tK (a : Int) (b : ByteArray) : ¬ iK a = tK b := fun h => by have := congrArg Vl.k h; simp [iK, tK] at this
theorem tK_iK (a : Int) (b : ByteArray) : ¬ tK b = iK a := fun h => by have := congrArg Vl.k h; simp [iK, tK] at this
def in64 (n : Int) : Prop := -9223372036854775808 ≤ n ∧ n ≤ 9223372036854775807
structure KOk (k : Vl) : Prop where
 ck : k.ck = true
 kind : k.k = 2 ∨ k.k = 3
 num : in64 k.n
structure VOk (v : Vl) : Prop where
 ck : v.ck = true
 some : ¬ v.k = 0
 num : in64 v.n
structure TbOk (T : Tb) : Prop where
 once : Once T
 key : ∀ x ∈ T, KOk x.1
 val : ∀ x ∈ T, VOk x.2
 most : T.length ≤ 65536
structure HOk (H : Hp) : Prop where
 tab : ∀ T ∈ H.tabs, TbOk T
 low : 0 ≤ H.spent
 le : H.spent ≤ H.cells
 most : H.cells ≤ 9223372036854775807
theorem toList_nil {s : ByteArray} (h : s.toList = []) : s = sNone := by
 rw [Lib.toList_data] at h
 apply ByteArray.ext
 exact Array.toList_inj.1 (h.trans rfl)
theorem KOk.form {k : Vl} (h : KOk k) : (k.k = 2 ∧ k = iK k.n) ∨ (k.k = 3 ∧ k = tK k.s) := by
 have hc := h.ck
 unfold Vl.ck checkB at hc
 rcases h.kind with h2 | h3
 ·refine .inl ⟨h2, Vl.eta h2 rfl ?_⟩
  simp [h2] at hc
  exact toList_nil (by first | exact hc | simpa using hc)
 ·refine .inr ⟨h3, Vl.eta h3 ?_ rfl⟩
  simp [h3] at hc
  exact hc.1
theorem sNone_list : sNone.toList = [] := by rw [Lib.toList_data]; rfl
theorem ck_zero : Vl.zero.ck = true := by
 have : (⟨#[]⟩ : ByteArray).toList = [] := sNone_list
 simp [Vl.ck, checkB, Vl.zero, this]
def tget (T : Tb) (k : Vl) : Vl := (mget T k).getD Vl.zero
def tput (T : Tb) (k v : Vl) : Tb := if v.k = 0 then mdel T k else mput T k v
theorem mem_of_mget {κ β : Type} [DecidableEq κ] : ∀ {m : List (κ × β)} {k : κ} {v : β}, mget m k = some v → (k, v) ∈ m
 | x :: m, k, v, h => by
  unfold mget at h
  split at h
  ·rename_i hx
   obtain rfl := Option.some.inj h
   rw [← hx]
   exact List.mem_cons_self
  ·exact List.mem_cons_of_mem _ (mem_of_mget h)
theorem TbOk.some {T : Tb} (h : TbOk T) (k : Vl) : (tget T k).k = 0 ↔ mget T k = none := by
 unfold tget
 cases hm : mget T k with
 | none => simp [Vl.zero]
 | some v => simpa using (h.val _ (mem_of_mget hm)).some
theorem TbOk.got {T : Tb} (h : TbOk T) (k : Vl) : in64 (tget T k).n ∧ (tget T k).ck = true ∧ (tget T k).s.size ≤ 1048576 := by
 unfold tget
 cases hm : mget T k with
 | none => exact ⟨⟨by decide, by decide⟩, ck_zero, by decide⟩
 | some v =>
  have hv := h.val _ (mem_of_mget hm)
  refine ⟨hv.num, hv.ck, ?_⟩
  have hc := hv.ck
  unfold Vl.ck checkB at hc
  simp only [Option.getD_some]
  by_cases h3 : v.k = 3
  ·simp [h3] at hc
   omega
  ·have hz : v.s.toList = [] → v.s.size ≤ 1048576 := fun he => by rw [toList_nil he]; decide
   have h0 := hv.some
   by_cases h1 : v.k = 1
   ·simp [h1] at hc; exact hz (by simpa using hc.1)
   ·by_cases h2 : v.k = 2
    ·simp [h2] at hc; exact hz (by simpa using hc)
    ·by_cases h4 : v.k = 4
     ·simp [h4] at hc; exact hz (by simpa using hc.1)
     ·simp [h0, h1, h2, h3, h4] at hc
theorem len_del {κ β : Type} [DecidableEq κ] (m : List (κ × β)) (k : κ) (h : Once m) : (mdel m k).length = if mget m k = none then m.length else m.length - 1 := by
 have e := congrArg List.length (keys_del m k)
 rw [List.length_map] at e
 rw [e, List.length_erase]
 have hm := mget_mem m k
 by_cases hc : mget m k = none
 ·rw [if_pos hc, if_neg (hm.1 hc), List.length_map]
 ·rw [if_neg hc, if_pos (by
   rcases Decidable.em (k ∈ m.map (·.1)) with h | h
   ·exact h
   ·exact absurd (hm.2 h) hc), List.length_map]
theorem mem_put {κ β : Type} [DecidableEq κ] : ∀ {m : List (κ × β)} {k : κ} {v : β} {x : κ × β}, x ∈ mput m k v → x = (k, v) ∨ x ∈ m
 | [], k, v, x, h => .inl (by simpa [mput] using h)
 | y :: m, k, v, x, h => by
  unfold mput at h
  split at h
  ·rcases List.mem_cons.1 h with h | h
   ·exact .inl h
   ·exact .inr (List.mem_cons_of_mem _ h)
  ·rcases List.mem_cons.1 h with h | h
   ·exact .inr (by rw [h]; exact List.mem_cons_self)
   ·rcases mem_put h with h | h
    ·exact .inl h
    ·exact .inr (List.mem_cons_of_mem _ h)
theorem mem_del {κ β : Type} [DecidableEq κ] : ∀ {m : List (κ × β)} {k : κ} {x : κ × β}, x ∈ mdel m k → x ∈ m
 | [], k, x, h => h
 | y :: m, k, x, h => by
  unfold mdel at h
  split at h
  ·exact List.mem_cons_of_mem _ h
  ·rcases List.mem_cons.1 h with h | h
   ·rw [h]; exact List.mem_cons_self
   ·exact List.mem_cons_of_mem _ (mem_del h)
theorem TbOk.put {T : Tb} (h : TbOk T) {k v : Vl} (hk : KOk k) (hv : v.ck = true) (hn : in64 v.n) (hf : (tget T k).k = 0 → ¬ v.k = 0 → T.length < 65536) : TbOk (tput T k v) := by
 unfold tput
 split
 ·refine ⟨h.once.del k, fun x hx => h.key x (mem_del hx), fun x hx => h.val x (mem_del hx), ?_⟩
  rw [len_del T k h.once]
  have := h.most
  split <;> omega
 ·rename_i hz
  refine ⟨h.once.put k v, fun x hx => ?_, fun x hx => ?_, ?_⟩
  ·rcases mem_put hx with rfl | hx
   ·exact hk
   ·exact h.key x hx
  ·rcases mem_put hx with rfl | hx
   ·exact ⟨hv, hz, hn⟩
   ·exact h.val x hx
  ·rw [len_put]
   have := h.most
   split
   ·rename_i hm
    have := hf ((h.some k).2 hm) hz
    omega
   ·exact this
theorem tbOk_nil : TbOk [] := ⟨List.nodup_nil, fun x h => (List.not_mem_nil h).elim, fun x h => (List.not_mem_nil h).elim, Nat.zero_le _⟩
def lenFrom (T : Tb) : Nat → Nat → Nat
 | 0, n => n
 | f + 1, n => if (tget T (iK (n + 1))).k = 0 then n else lenFrom T f (n + 1)
def tlen (T : Tb) : Nat := lenFrom T T.length 0
theorem run_of_keys {T : Tb} (h : TbOk T) (n : Nat) (hn : ∀ i : Nat, i < n → ¬ (tget T (iK (i + 1))).k = 0) : n ≤ T.length := by
 have hs : ((List.range n).map fun i : Nat => iK (i + 1)).Nodup := by
  refine List.pairwise_map.2 ((List.pairwise_lt_range (n := n)).imp ?_)
  intro a b hab e
  have := iK_inj e
  omega
 have hsub : ((List.range n).map fun i : Nat => iK (i + 1)) ⊆ T.map (·.1) := by
  intro x hx
  obtain ⟨i, hi, rfl⟩ := List.mem_map.1 hx
  have := hn i (List.mem_range.1 hi)
  rw [h.some] at this
  rcases Decidable.em (iK (i + 1) ∈ T.map (·.1)) with hm | hm
  ·exact hm
  ·exact absurd ((mget_mem T _).2 hm) this
 have := hs.length_le_of_subset hsub
 simpa using this
theorem lenFrom_spec {T : Tb} (h : TbOk T) : ∀ (f n : Nat), n + f = T.length → (∀ i : Nat, i < n → ¬ (tget T (iK (i + 1))).k = 0) →
  (tget T (iK (lenFrom T f n + 1))).k = 0 ∧ ∀ i : Nat, i < lenFrom T f n → ¬ (tget T (iK (i + 1))).k = 0
 | 0, n, hf, hn => by
  refine ⟨?_, hn⟩
  unfold lenFrom
  rcases Decidable.em ((tget T (iK (n + 1))).k = 0) with hz | hz
  ·exact hz
  ·have := run_of_keys h (n + 1) (fun i hi => by
    rcases Nat.lt_or_ge i n with h1 | h1
    ·exact hn i h1
    ·obtain rfl : i = n := by omega
     exact hz)
   omega
 | f + 1, n, hf, hn => by
  unfold lenFrom
  split
  ·rename_i hz; exact ⟨hz, hn⟩
  ·rename_i hz
   exact lenFrom_spec h f (n + 1) (by omega) (fun i hi => by
    rcases Nat.lt_or_ge i n with h1 | h1
    ·exact hn i h1
    ·obtain rfl : i = n := by omega
     exact hz)
theorem tlen_end {T : Tb} (h : TbOk T) : (tget T (iK (tlen T + 1))).k = 0 := (lenFrom_spec h _ 0 (Nat.zero_add _) (fun i hi => by omega)).1
theorem tlen_in {T : Tb} (h : TbOk T) (i : Nat) (hi : i < tlen T) : ¬ (tget T (iK (i + 1))).k = 0 := (lenFrom_spec h _ 0 (Nat.zero_add _) (fun i hi => by omega)).2 i hi
theorem tlen_le {T : Tb} (h : TbOk T) : tlen T ≤ T.length := run_of_keys h _ (tlen_in h)
theorem tlen_eq {T : Tb} (h : TbOk T) (n : Nat) (hz : (tget T (iK (n + 1))).k = 0) (hn : ∀ i : Nat, i < n → ¬ (tget T (iK (i + 1))).k = 0) : n = tlen T := by
 rcases Nat.lt_trichotomy n (tlen T) with hl | hl | hl
 ·exact absurd hz (tlen_in h n hl)
 ·exact hl
 ·exact absurd (tlen_end h) (hn _ hl)
structure TRep (mi : List (Int × Vl)) (mt : List (ByteArray × Vl)) (T : Tb) : Prop where
 oi : Once mi
 ot : Once mt
 ints : ∀ n, mget T (iK n) = mget mi n
 texts : ∀ s, mget T (tK s) = mget mt s
 count : T.length = mi.length + mt.length
theorem TRep.nil : TRep [] [] [] := ⟨List.nodup_nil, List.nodup_nil, fun _ => rfl, fun _ => rfl, rfl⟩
theorem TRep.puti {mi : List (Int × Vl)} {mt : List (ByteArray × Vl)} {T : Tb} (h : TRep mi mt T) (ho : Once T) (n : Int) (v : Vl) : TRep (mput mi n v) mt (mput T (iK n) v) :=
 ⟨h.oi.put n v, h.ot, fun j => by
  rw [mget_put, mget_put, h.ints]
  by_cases e : n = j
  ·rw [if_pos e, if_pos (by rw [e])]
  ·rw [if_neg e, if_neg (fun h => e (iK_inj h))], fun s => by
  rw [mget_put, if_neg (iK_tK n s), h.texts], by
  rw [len_put, len_put, h.ints, h.count]
  split <;> omega⟩
theorem TRep.putt {mi : List (Int × Vl)} {mt : List (ByteArray × Vl)} {T : Tb} (h : TRep mi mt T) (ho : Once T) (s : ByteArray) (v : Vl) : TRep mi (mput mt s v) (mput T (tK s) v) :=
 ⟨h.oi, h.ot.put s v, fun n => by
  rw [mget_put, if_neg (tK_iK n s), h.ints], fun j => by
  rw [mget_put, mget_put, h.texts]
  by_cases e : s = j
  ·rw [if_pos e, if_pos (by rw [e])]
  ·rw [if_neg e, if_neg (fun h => e (tK_inj h))], by
  rw [len_put, len_put, h.texts, h.count]
  split <;> omega⟩
theorem len_pos_of {κ β : Type} [DecidableEq κ] {m : List (κ × β)} {k : κ} (h : ¬ mget m k = none) : 0 < m.length := by
 cases m with
 | nil => exact absurd rfl h
 | cons _ _ => exact Nat.succ_pos _
theorem TRep.deli {mi : List (Int × Vl)} {mt : List (ByteArray × Vl)} {T : Tb} (h : TRep mi mt T) (ho : Once T) (n : Int) : TRep (mdel mi n) mt (mdel T (iK n)) :=
 ⟨h.oi.del n, h.ot, fun j => by
  rw [mget_del _ _ _ ho, mget_del _ _ _ h.oi, h.ints]
  by_cases e : n = j
  ·rw [if_pos e, if_pos (by rw [e])]
  ·rw [if_neg e, if_neg (fun h => e (iK_inj h))], fun s => by
  rw [mget_del _ _ _ ho, if_neg (iK_tK n s), h.texts], by
  rw [len_del _ _ ho, len_del _ _ h.oi, h.ints, h.count]
  split
  ·rfl
  ·rename_i hm
   have := len_pos_of hm
   omega⟩
theorem TRep.delt {mi : List (Int × Vl)} {mt : List (ByteArray × Vl)} {T : Tb} (h : TRep mi mt T) (ho : Once T) (s : ByteArray) : TRep mi (mdel mt s) (mdel T (tK s)) :=
 ⟨h.oi, h.ot.del s, fun n => by
  rw [mget_del _ _ _ ho, if_neg (tK_iK n s), h.ints], fun j => by
  rw [mget_del _ _ _ ho, mget_del _ _ _ h.ot, h.texts]
  by_cases e : s = j
  ·rw [if_pos e, if_pos (by rw [e])]
  ·rw [if_neg e, if_neg (fun h => e (tK_inj h))], by
  rw [len_del _ _ ho, len_del _ _ h.ot, h.texts, h.count]
  split
  ·rfl
  ·rename_i hm
   have := len_pos_of hm
   omega⟩
structure TRow (L T : Tb) : Prop where
 once : Once L
 get : ∀ k, mget T k = mget L k
 count : T.length = L.length
theorem TRow.nil : TRow [] [] := ⟨List.nodup_nil, fun _ => rfl, rfl⟩
def drop1 (L : Tb) (k : Vl) : Tb := L.filter fun x => !decide (x.1 = k)
theorem mget_drop1 (L : Tb) (k j : Vl) : mget (drop1 L k) j = if k = j then none else mget L j := by
 unfold drop1
 induction L with
 | nil => simp [mget]
 | cons x L ih =>
  rw [List.filter_cons]
  by_cases hx : x.1 = k
  ·simp only [hx, decide_true, Bool.not_true, Bool.false_eq_true, if_false]
   rw [ih]
   by_cases e : k = j
   ·rw [if_pos e, if_pos e]
   ·rw [if_neg e, if_neg e, mget, if_neg (by rw [hx]; exact e)]
  ·simp only [hx, decide_false, Bool.not_false, if_true]
   unfold mget
   rw [ih]
   by_cases e : x.1 = j
   ·rw [if_pos e, if_pos e, if_neg (by rintro rfl; exact hx e)]
   ·rw [if_neg e, if_neg e]
theorem once_drop1 {L : Tb} (h : Once L) (k : Vl) : Once (drop1 L k) := by
 unfold Once drop1 at *
 exact List.Pairwise.sublist (List.filter_sublist.map _) h
theorem len_drop1 {L : Tb} (h : Once L) (k : Vl) : (drop1 L k).length = if mget L k = none then L.length else L.length - 1 := by
 unfold drop1
 induction L with
 | nil => simp [mget]
 | cons x L ih =>
  unfold Once at h
  rw [List.map_cons, List.nodup_cons] at h
  have ih := ih h.2
  rw [List.filter_cons]
  by_cases hx : x.1 = k
  ·have hm : mget L k = none := (mget_mem L k).2 (by rw [← hx]; exact h.1)
   rw [if_pos hm] at ih
   simp only [hx, decide_true, Bool.not_true, Bool.false_eq_true, if_false, mget, if_true, List.length_cons, reduceCtorEq]
   rw [ih]; omega
  ·simp only [hx, decide_false, Bool.not_false, if_true, mget, if_false, List.length_cons]
   rw [ih]
   split
   ·rfl
   ·rename_i hm
    have := len_pos_of hm
    omega
theorem TRow.del {L T : Tb} (h : TRow L T) (ho : Once T) (k : Vl) : TRow (drop1 L k) (mdel T k) :=
 ⟨once_drop1 h.once k, fun j => by rw [mget_del _ _ _ ho, mget_drop1, h.get], by rw [len_del _ _ ho, len_drop1 h.once, h.get, h.count]⟩
theorem mget_snoc {κ β : Type} [DecidableEq κ] : ∀ (m : List (κ × β)) (k j : κ) (v : β), mget m k = none → mget (m ++ [(k, v)]) j = if k = j then some v else mget m j
 | [], k, j, v, _ => by simp [mget]
 | x :: m, k, j, v, h => by
  unfold mget at h
  split at h
  ·cases h
  ·rename_i hx
   rw [List.cons_append]
   unfold mget
   rw [mget_snoc m k j v h]
   by_cases e : x.1 = j
   ·rw [if_pos e, if_pos e, if_neg (by rintro rfl; exact hx e)]
   ·rw [if_neg e, if_neg e]
theorem TRow.put {L T : Tb} (h : TRow L T) (ho : Once T) (k v : Vl) : TRow (drop1 L k ++ [(k, v)]) (mput T k v) := by
 have hg : mget (drop1 L k) k = none := by rw [mget_drop1, if_pos rfl]
 refine ⟨?_, fun j => ?_, ?_⟩
 ·have h1 := once_drop1 h.once k
  unfold Once at h1 ⊢
  rw [List.map_append, List.nodup_append]
  exact ⟨h1, by simp, fun a ha b hb e => (mget_mem _ _).1 hg (by simp at hb; subst hb; subst e; exact ha)⟩
 ·rw [mget_put, mget_snoc _ _ _ _ hg, mget_drop1, h.get]
  by_cases e : k = j
  ·rw [if_pos e, if_pos e]
  ·rw [if_neg e, if_neg e, if_neg e]
 ·rw [len_put, List.length_append, len_drop1 h.once, h.get, h.count]
  split
  ·rfl
  ·rename_i hm
   have := len_pos_of hm
   simp; omega
theorem TRow.keys {L T : Tb} (h : TRow L T) (hT : TbOk T) : (L.map (·.1)).Perm (T.map (·.1)) := by
 rw [List.perm_ext_iff_of_nodup h.once hT.once]
 intro k
 have h1 := mget_mem L k
 have h2 := mget_mem T k
 rw [← h.get, h2] at h1
 exact Decidable.not_iff_not.1 h1.symm
end Go.Proofs.YtlfihdcgbhdajaaDoor
namespace Go.Proofs.YtlfihdcgbhdajaaDoor
open Go.RowKit
set_option linter.unusedVariables false
set_option linter.unusedSimpArgs false

def ofW (H : Hp) (t : Vl) : ByteArray := if t.ck && decide (t.k = 4) then (if t.n < (H.tabs.length : Int) then sNone else sKey) else sType
def tabOf (H : Hp) (t : Vl) : Tb := H.tabs.getD t.n.toNat []
def getW (H : Hp) (t k : Vl) : ByteArray := if k.ck then (if ofW H t = sNone then (if k.k = 2 ∨ k.k = 3 then sNone else sKey) else ofW H t) else sType
def getV (H : Hp) (t k : Vl) : Vl := if getW H t k = sNone then tget (tabOf H t) k else Vl.zero
def freshB (H : Hp) (t k v : Vl) : Bool := decide ((getV H t k).k = 0) && !decide (v.k = 0)
def setW (H : Hp) (t k v : Vl) : ByteArray :=
 if v.ck then (if getW H t k = sNone then (if freshB H t k v then (if 65536 ≤ (tabOf H t).length then sLong else if 1 ≤ H.cells - H.spent then sNone else sMemory) else sNone) else getW H t k) else sType
def setH (H : Hp) (t k v : Vl) : Hp := if setW H t k v = sNone then ⟨H.tabs.set t.n.toNat (tput (tabOf H t) k v), H.cells, if freshB H t k v then H.spent + 1 else H.spent⟩ else H
def lenW (H : Hp) (v : Vl) : ByteArray := if v.ck && decide (v.k = 3) then sNone else ofW H v
def lenV (H : Hp) (v : Vl) : Int := if v.ck && decide (v.k = 3) then v.s.size else if ofW H v = sNone then tlen (tabOf H v) else 0
def tabW (H : Hp) : ByteArray := if 1 ≤ H.cells - H.spent then sNone else sMemory
def tabV (H : Hp) : Vl := if 1 ≤ H.cells - H.spent then ⟨4, H.tabs.length, sNone⟩ else Vl.zero
def tabH (H : Hp) : Hp := if 1 ≤ H.cells - H.spent then ⟨H.tabs ++ [[]], H.cells, H.spent + 1⟩ else H
def mkH (H : Hp) (s : ByteArray) : Hp := { H with spent := mkC H.cells H.spent s }
def newH (c : Int) : Hp := ⟨[], max c 0, 0⟩
theorem sNone_ne : ¬ sKey = sNone ∧ ¬ sType = sNone ∧ ¬ sLong = sNone ∧ ¬ sMemory = sNone := by decide
theorem ofW_none {H : Hp} {t : Vl} (h : ofW H t = sNone) : t.ck = true ∧ t.k = 4 ∧ 0 ≤ t.n ∧ t.n < (H.tabs.length : Int) ∧ t.n.toNat < H.tabs.length := by
 unfold ofW at h
 split at h
 ·rename_i h1
  split at h
  ·rename_i h2
   simp only [Bool.and_eq_true, decide_eq_true_eq] at h1
   obtain ⟨hc, h4⟩ := h1
   have h0 : 0 ≤ t.n := by
    have := hc
    unfold Vl.ck checkB at this
    simp [h4] at this
    exact this.2
   exact ⟨hc, h4, h0, h2, by omega⟩
  ·exact absurd h sNone_ne.1
 ·exact absurd h sNone_ne.2.1
theorem tabOf_ok {H : Hp} (h : HOk H) {t : Vl} (ht : t.n.toNat < H.tabs.length) : TbOk (tabOf H t) := by
 unfold tabOf
 rw [List.getD_eq_getElem?_getD, List.getElem?_eq_getElem ht, Option.getD_some]
 exact h.tab _ (List.getElem_mem ht)
theorem tabOf_get {H : Hp} {t : Vl} (ht : t.n.toNat < H.tabs.length) : H.tabs[t.n.toNat]? = some (tabOf H t) := by
 unfold tabOf
 rw [List.getD_eq_getElem?_getD, List.getElem?_eq_getElem ht, Option.getD_some]
theorem getW_none {H : Hp} {t k : Vl} (h : getW H t k = sNone) : k.ck = true ∧ ofW H t = sNone ∧ (k.k = 2 ∨ k.k = 3) := by
 unfold getW at h
 split at h
 ·rename_i h1
  split at h
  ·rename_i h2
   split at h
   ·rename_i h3; exact ⟨h1, h2, h3⟩
   ·exact absurd h sNone_ne.1
  ·rename_i h2; exact absurd h h2
 ·exact absurd h sNone_ne.2.1
theorem getV_ok {H : Hp} (h : HOk H) (t k : Vl) : in64 (getV H t k).n ∧ (getV H t k).ck = true ∧ (getV H t k).s.size ≤ 1048576 := by
 unfold getV
 split
 ·rename_i hw
  obtain ⟨_, h2, _⟩ := getW_none hw
  exact (tabOf_ok h (ofW_none h2).2.2.2.2).got k
 ·exact ⟨⟨by decide, by decide⟩, ck_zero, by decide⟩
theorem ck_kind {v : Vl} (h : v.ck = true) : 0 ≤ v.k ∧ v.k ≤ 4 := by
 unfold Vl.ck checkB at h
 by_cases h0 : v.k = 0
 ·omega
 ·by_cases h1 : v.k = 1
  ·omega
  ·by_cases h2 : v.k = 2
   ·omega
   ·by_cases h3 : v.k = 3
    ·omega
    ·by_cases h4 : v.k = 4
     ·omega
     ·simp [h0, h1, h2, h3, h4] at h
theorem setW_none {H : Hp} {t k v : Vl} (h : setW H t k v = sNone) : v.ck = true ∧ getW H t k = sNone ∧ (freshB H t k v = true → (tabOf H t).length < 65536 ∧ 1 ≤ H.cells - H.spent) := by
 unfold setW at h
 split at h
 ·rename_i h1
  split at h
  ·rename_i h2
   refine ⟨h1, h2, fun hf => ?_⟩
   rw [if_pos hf] at h
   split at h
   ·exact absurd h sNone_ne.2.2.1
   ·split at h
    ·rename_i h3 h4; exact ⟨by omega, h4⟩
    ·exact absurd h sNone_ne.2.2.2
  ·rename_i h2; exact absurd h h2
 ·exact absurd h sNone_ne.2.1
theorem kOk_of {H : Hp} {t k : Vl} (h : getW H t k = sNone) (hk : in64 k.n) : KOk k := ⟨(getW_none h).1, (getW_none h).2.2, hk⟩
theorem setH_ok {H : Hp} (h : HOk H) {t k v : Vl} (hk : in64 k.n) (hv : in64 v.n) : HOk (setH H t k v) := by
 unfold setH
 split
 ·rename_i hw
  obtain ⟨h1, h2, h3⟩ := setW_none hw
  obtain ⟨g1, g2, g3⟩ := getW_none h2
  have ht := (ofW_none g2).2.2.2.2
  refine ⟨fun T hT => ?_, ?_, ?_, h.most⟩
  ·rcases List.mem_or_eq_of_mem_set hT with hT | rfl
   ·exact h.tab T hT
   ·refine (tabOf_ok h ht).put (kOk_of h2 hk) h1 hv fun hz hn => (h3 ?_).1
    unfold freshB getV
    rw [if_pos h2]
    simp [hz, hn]
  ·have := h.low
   show 0 ≤ if freshB H t k v = true then _ else _
   split <;> omega
  ·have := h.le
   show (if freshB H t k v = true then _ else _) ≤ _
   split
   ·rename_i hf
    have h6 := (h3 hf).2
    show H.spent + 1 ≤ H.cells
    omega
   ·exact this
 ·exact h
theorem setH_len {H : Hp} (t k v : Vl) : (setH H t k v).tabs.length = H.tabs.length := by
 unfold setH
 split
 ·exact List.length_set
 ·rfl
theorem tabH_ok {H : Hp} (h : HOk H) : HOk (tabH H) := by
 unfold tabH
 split
 ·refine ⟨fun T hT => ?_, ?_, ?_, h.most⟩
  ·rcases List.mem_append.1 hT with hT | hT
   ·exact h.tab T hT
   ·rw [List.mem_singleton] at hT; subst hT; exact tbOk_nil
  ·have := h.low; show 0 ≤ H.spent + 1; omega
  ·show H.spent + 1 ≤ H.cells; omega
 ·exact h
theorem mkC_le {c sp : Int} {s : ByteArray} (h : sp ≤ c) (h0 : 0 ≤ sp) : 0 ≤ mkC c sp s ∧ mkC c sp s ≤ c := by
 unfold mkC tk mkN
 split
 ·omega
 ·split <;> omega
theorem mkH_ok {H : Hp} (h : HOk H) (s : ByteArray) : HOk (mkH H s) := ⟨h.tab, (mkC_le h.le h.low).1, (mkC_le h.le h.low).2, h.most⟩
theorem newH_ok {c : Int} (h : c ≤ 9223372036854775807) : HOk (newH c) := ⟨fun T hT => (List.not_mem_nil hT).elim, Int.le_refl _, by show 0 ≤ max c 0; omega, by show max c 0 ≤ _; omega⟩
theorem lenW_none {H : Hp} {v : Vl} (h : lenW H v = sNone) (h3 : ¬ v.k = 3) : ofW H v = sNone := by
 unfold lenW at h
 rw [if_neg (by simp [h3])] at h
 exact h
end Go.Proofs.YtlfihdcgbhdajaaDoor
namespace Go.Proofs.YtlfihdcgbhdajaaDoor
open Go.RowKit
set_option linter.unusedVariables false
set_option linter.unusedSimpArgs false

end Go.Proofs.YtlfihdcgbhdajaaDoor
