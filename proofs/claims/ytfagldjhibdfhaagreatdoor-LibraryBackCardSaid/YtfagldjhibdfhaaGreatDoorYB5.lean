/- What a function does, by its number. The closure of Call: what is given up with is told. library.Call: what it tells, and how the heap is. A heap of the call's own, and rows of values beside it, as the laws go on. A drawn region whose callees make memory: one walk, in the text's order. The rows of the chapter: what works calls, call by call. -/
import Derived.Test.YtfagldjhibdfhaaGreatDoorYA9
import Derived.Test.YtfagldjhibdfhaaGreatDoorYA8
import Derived.Test.YtfagldjhibdfhaaGreatDoorYB2
import Derived.Test.YtfagldjhibdfhaaGreatDoorYB3
import Derived.Test.YtfagldjhibdfhaaGreatDoorYB4
import Derived.Recover
import Derived.Defers
import Derived.Test.YtfagldjhibdfhaaGreatDoorYA1
import Derived.Test.YtfagldjhibdfhaaGreatDoorYA6
import Derived.BigQuiet
namespace Go.Proofs.YtfagldjhibdfhaaGreatDoor
open Go.RowKit
set_option linter.unusedVariables false
set_option linter.unusedSimpArgs false

theorem askL_ok (H : Hp) : ∀ (ks : List UInt8) (l : List Vl), askL H ks l = sNone → ∀ (i : Nat) (c : UInt8) (v : Vl), ks[i]? = some c → l[i]? = some v → kindBad c v = false ∧ (v.k = 4 → lenW H v = sNone)
 | [], _, _, i, c, v, h1, _ => by simp at h1
 | _ :: _, [], _, i, c, v, _, h2 => by simp at h2
 | c0 :: ks, v0 :: l, h, i, c, v, h1, h2 => by
  unfold askL at h
  split at h
  ·exact absurd h (by decide)
  rename_i hb
  have hb : kindBad c0 v0 = false := by simpa using hb
  cases i with
  | zero =>
   obtain rfl : c0 = c := by simpa using h1
   obtain rfl : v0 = v := by simpa using h2
   refine ⟨hb, fun h4 => ?_⟩
   rw [if_pos h4] at h
   split at h
   ·assumption
   ·assumption
  | succ i =>
   refine askL_ok H ks l ?_ i c v (by simpa using h1) (by simpa using h2)
   split at h
   ·split at h
    ·exact h
    ·rename_i h5; exact absurd h h5
   ·exact h
theorem lenW_of {H : Hp} {v : Vl} (h4 : v.k = 4) (h : lenW H v = sNone) : ofW H v = sNone := by
 unfold lenW at h
 rw [h4, show (v.ck && decide ((4 : Int) = 3)) = false from by cases v.ck <;> rfl] at h
 exact h
theorem ask_args {H : Hp} {f : Nat} {l : List Vl} (h : askW H f l = sNone) : (kindsP f l.length).length = l.length ∧ ∀ (i : Nat) (c : UInt8) (v : Vl), (kindsP f l.length)[i]? = some c → l[i]? = some v → v.ck = true ∧ (c = 98 → ofW H v = sNone) := by
 unfold askW at h
 split at h
 ·rename_i hl
  refine ⟨hl, fun i c v h1 h2 => ?_⟩
  obtain ⟨h3, h4⟩ := askL_ok H _ _ h i c v h1 h2
  unfold kindBad at h3
  simp only [Bool.or_eq_false_iff, Bool.not_eq_false', Bool.and_eq_false_imp, decide_eq_true_eq, decide_eq_false_iff_not, Classical.not_not] at h3
  exact ⟨h3.1.1.1, fun hc => lenW_of (h3.2 hc) (h4 (h3.2 hc))⟩
 ·exact absurd h (by decide)
structure Sound (v : Vl) : Prop where
 num : in64 v.n
 txt : v.s.size ≤ 1048576
theorem one_of {α : Type} {l : List α} (h : l.length = 1) : ∃ a, l = [a] := by
 match l, h with
 | [a], _ => exact ⟨a, rfl⟩
theorem two_of {α : Type} {l : List α} (h : l.length = 2) : ∃ a b, l = [a, b] := by
 match l, h with
 | [a, b], _ => exact ⟨a, b, rfl⟩
theorem three_of {α : Type} {l : List α} (h : l.length = 3) : ∃ a b c, l = [a, b, c] := by
 match l, h with
 | [a, b, c], _ => exact ⟨a, b, c, rfl⟩
theorem do_call (g : Nat) (tv : Value) (rs : List (Nat × Nat)) (H : Hp) (w : World) (h : HeapIn w g tv rs H) (hL : LLaid w) (hlen : H.tabs.length ≤ 1000000000) (r nb : Nat) (kv : Nat → Value) (hla : LibAt w r nb kv) (f : Nat) (hf : f < 13) (q : Option Addr) (l : List Vl) (cap : Nat) (ha : ArgsAt w q l)
  (hs : ∀ x ∈ l, Sound x) (hq : ∀ a, q = some a → ¬ Foot g tv rs a.block) (hw : askW H f l = sNone) :
  ∃ k cp, fnV nb f = .func (.func k) #[] cp ∧ (cp = #[] ∨ cp = #[.pointer (some ⟨nb, 0, none⟩)]) ∧ Calls Tryz.prog k (#[.pointer (some ⟨g, 0, none⟩), .slice q l.length cap] ++ cp) w (DoE w g tv rs (doR H f l)) := by
 obtain ⟨hk, hall⟩ := ask_args hw
 have h64 : H.tabs.length ≤ 9223372036854775807 := by omega
 have hcase : f = 0 ∨ f = 1 ∨ f = 2 ∨ f = 3 ∨ f = 4 ∨ f = 5 ∨ f = 6 ∨ f = 7 ∨ f = 8 ∨ f = 9 ∨ f = 10 ∨ f = 11 ∨ f = 12 := by omega
 rcases hcase with rfl | rfl | rfl | rfl | rfl | rfl | rfl | rfl | rfl | rfl | rfl | rfl | rfl
 case inr.inl => exact ⟨_, _, rfl, .inl rfl, char_do g tv rs H w h q cap l ha fun x hx => (hs x hx).num⟩
 case inl =>
  obtain ⟨x0, x1, rfl⟩ := two_of (l := l) (by simpa [kindsP] using hk.symm)
  obtain ⟨b, o, rfl, a0⟩ := ha.at_ 0 x0 rfl
  have s0 := hs x0 (by simp)
  obtain ⟨b', o', hb', a1⟩ := ha.at_ 1 x1 rfl
  cases hb'
  have s1 := hs x1 (by simp)
  simp only [Nat.zero_mul, Nat.add_zero, Nat.one_mul, Nat.reduceMul] at a0 a1
  have nf : ¬ Foot g tv rs b := hq _ rfl
  exact ⟨_, _, rfl, .inl rfl, byte_do g tv rs H w h b o cap x0 x1 s0.txt s1.num a0 a1⟩
 case inr.inr.inl =>
  obtain ⟨x0, x1, rfl⟩ := two_of (l := l) (by simpa [kindsP] using hk.symm)
  obtain ⟨b, o, rfl, a0⟩ := ha.at_ 0 x0 rfl
  have s0 := hs x0 (by simp)
  obtain ⟨b', o', hb', a1⟩ := ha.at_ 1 x1 rfl
  cases hb'
  have s1 := hs x1 (by simp)
  simp only [Nat.zero_mul, Nat.add_zero, Nat.one_mul, Nat.reduceMul] at a0 a1
  have nf : ¬ Foot g tv rs b := hq _ rfl
  exact ⟨_, _, rfl, .inl rfl, concat_do g tv rs H w h hL h64 b o cap x0 x1 ((hall 0 98 x0 rfl rfl).2 rfl) s1.txt a0 a1⟩
 case inr.inr.inr.inl =>
  obtain ⟨x0, x1, rfl⟩ := two_of (l := l) (by simpa [kindsP] using hk.symm)
  obtain ⟨b, o, rfl, a0⟩ := ha.at_ 0 x0 rfl
  have s0 := hs x0 (by simp)
  obtain ⟨b', o', hb', a1⟩ := ha.at_ 1 x1 rfl
  cases hb'
  have s1 := hs x1 (by simp)
  simp only [Nat.zero_mul, Nat.add_zero, Nat.one_mul, Nat.reduceMul] at a0 a1
  have nf : ¬ Foot g tv rs b := hq _ rfl
  exact ⟨_, _, rfl, .inl rfl, find_do g tv rs H w h hL b o cap x0 x1 s0.txt a0 a1⟩
 case inr.inr.inr.inr.inl =>
  rcases Decidable.em (l.length = 2) with hn | hn
  ·obtain ⟨x0, x1, rfl⟩ := two_of hn
   obtain ⟨b, o, rfl, a0⟩ := ha.at_ 0 x0 rfl
   have s0 := hs x0 (by simp)
   obtain ⟨b', o', hb', a1⟩ := ha.at_ 1 x1 rfl
   cases hb'
   have s1 := hs x1 (by simp)
   simp only [Nat.zero_mul, Nat.add_zero, Nat.one_mul, Nat.reduceMul] at a0 a1
   have nf : ¬ Foot g tv rs b := hq _ rfl
   exact ⟨_, _, rfl, .inl rfl, insert2_do g tv rs H w h h64 b o cap x0 x1 ((hall 0 98 x0 rfl rfl).2 rfl) s1.num a0 a1 nf⟩
  ·have hn2 : l.length = 3 := by
    unfold kindsP at hk
    simp only [if_neg hn, List.length_cons, List.length_nil] at hk
    omega
   obtain ⟨x0, x1, x2, rfl⟩ := three_of hn2
   obtain ⟨b, o, rfl, a0⟩ := ha.at_ 0 x0 rfl
   have s0 := hs x0 (by simp)
   obtain ⟨b', o', hb', a1⟩ := ha.at_ 1 x1 rfl
   cases hb'
   have s1 := hs x1 (by simp)
   obtain ⟨b', o', hb', a2⟩ := ha.at_ 2 x2 rfl
   cases hb'
   have s2 := hs x2 (by simp)
   simp only [Nat.zero_mul, Nat.add_zero, Nat.one_mul, Nat.reduceMul] at a0 a1 a2
   have nf : ¬ Foot g tv rs b := hq _ rfl
   exact ⟨_, _, rfl, .inl rfl, insert3_do g tv rs H w h h64 b o cap x0 x1 x2 ((hall 0 98 x0 rfl rfl).2 rfl) s2.num a0 a1 s1.num a2 nf⟩
 case inr.inr.inr.inr.inr.inl =>
  obtain ⟨x0, rfl⟩ := one_of (l := l) (by simpa [kindsP] using hk.symm)
  obtain ⟨b, o, rfl, a0⟩ := ha.at_ 0 x0 rfl
  have s0 := hs x0 (by simp)
  simp only [Nat.zero_mul, Nat.add_zero, Nat.one_mul, Nat.reduceMul] at a0
  have nf : ¬ Foot g tv rs b := hq _ rfl
  exact ⟨_, _, rfl, .inl rfl, keys_do g tv rs H w h hlen b o cap x0 ((hall 0 98 x0 rfl rfl).2 rfl) a0 nf⟩
 case inr.inr.inr.inr.inr.inr.inl =>
  obtain ⟨x0, rfl⟩ := one_of (l := l) (by simpa [kindsP] using hk.symm)
  obtain ⟨b, o, rfl, a0⟩ := ha.at_ 0 x0 rfl
  have s0 := hs x0 (by simp)
  simp only [Nat.zero_mul, Nat.add_zero, Nat.one_mul, Nat.reduceMul] at a0
  have nf : ¬ Foot g tv rs b := hq _ rfl
  exact ⟨_, _, rfl, .inl rfl, len_do g tv rs H w h h64 b o cap x0 a0⟩
 case inr.inr.inr.inr.inr.inr.inr.inl =>
  rcases Decidable.em (l.length = 1) with hn | hn
  ·obtain ⟨x0, rfl⟩ := one_of hn
   obtain ⟨b, o, rfl, a0⟩ := ha.at_ 0 x0 rfl
   have s0 := hs x0 (by simp)
   simp only [Nat.zero_mul, Nat.add_zero, Nat.one_mul, Nat.reduceMul] at a0
   have nf : ¬ Foot g tv rs b := hq _ rfl
   exact ⟨_, _, rfl, .inl rfl, remove1_do g tv rs H w h h64 b o cap x0 ((hall 0 98 x0 rfl rfl).2 rfl) a0 nf⟩
  ·have hn2 : l.length = 2 := by
    unfold kindsP at hk
    simp only [if_neg hn, List.length_cons, List.length_nil] at hk
    omega
   obtain ⟨x0, x1, rfl⟩ := two_of hn2
   obtain ⟨b, o, rfl, a0⟩ := ha.at_ 0 x0 rfl
   have s0 := hs x0 (by simp)
   obtain ⟨b', o', hb', a1⟩ := ha.at_ 1 x1 rfl
   cases hb'
   have s1 := hs x1 (by simp)
   simp only [Nat.zero_mul, Nat.add_zero, Nat.one_mul, Nat.reduceMul] at a0 a1
   have nf : ¬ Foot g tv rs b := hq _ rfl
   exact ⟨_, _, rfl, .inl rfl, remove2_do g tv rs H w h h64 b o cap x0 x1 ((hall 0 98 x0 rfl rfl).2 rfl) a0 a1 s1.num nf⟩
 case inr.inr.inr.inr.inr.inr.inr.inr.inl =>
  obtain ⟨x0, x1, rfl⟩ := two_of (l := l) (by simpa [kindsP] using hk.symm)
  obtain ⟨b, o, rfl, a0⟩ := ha.at_ 0 x0 rfl
  have s0 := hs x0 (by simp)
  obtain ⟨b', o', hb', a1⟩ := ha.at_ 1 x1 rfl
  cases hb'
  have s1 := hs x1 (by simp)
  simp only [Nat.zero_mul, Nat.add_zero, Nat.one_mul, Nat.reduceMul] at a0 a1
  have nf : ¬ Foot g tv rs b := hq _ rfl
  exact ⟨_, _, rfl, .inl rfl, rep_do g tv rs H w h b o cap x0 x1 s0.txt s1.num a0 a1⟩
 case inr.inr.inr.inr.inr.inr.inr.inr.inr.inl =>
  rcases Decidable.em (l.length = 2) with hn | hn
  ·obtain ⟨x0, x1, rfl⟩ := two_of hn
   obtain ⟨b, o, rfl, a0⟩ := ha.at_ 0 x0 rfl
   have s0 := hs x0 (by simp)
   obtain ⟨b', o', hb', a1⟩ := ha.at_ 1 x1 rfl
   cases hb'
   have s1 := hs x1 (by simp)
   simp only [Nat.zero_mul, Nat.add_zero, Nat.one_mul, Nat.reduceMul] at a0 a1
   have nf : ¬ Foot g tv rs b := hq _ rfl
   exact ⟨_, _, rfl, .inl rfl, sub2_any g tv rs H w h b o cap x0 x1 s0.txt s1.num a0 a1⟩
  ·have hn2 : l.length = 3 := by
    unfold kindsP at hk
    simp only [if_neg hn, List.length_cons, List.length_nil] at hk
    omega
   obtain ⟨x0, x1, x2, rfl⟩ := three_of hn2
   obtain ⟨b, o, rfl, a0⟩ := ha.at_ 0 x0 rfl
   have s0 := hs x0 (by simp)
   obtain ⟨b', o', hb', a1⟩ := ha.at_ 1 x1 rfl
   cases hb'
   have s1 := hs x1 (by simp)
   obtain ⟨b', o', hb', a2⟩ := ha.at_ 2 x2 rfl
   cases hb'
   have s2 := hs x2 (by simp)
   simp only [Nat.zero_mul, Nat.add_zero, Nat.one_mul, Nat.reduceMul] at a0 a1 a2
   have nf : ¬ Foot g tv rs b := hq _ rfl
   exact ⟨_, _, rfl, .inl rfl, sub3_any g tv rs H w h b o cap x0 x1 x2 s0.txt s1.num a0 a1 s2.num a2⟩
 case inr.inr.inr.inr.inr.inr.inr.inr.inr.inr.inl =>
  obtain ⟨x0, rfl⟩ := one_of (l := l) (by simpa [kindsP] using hk.symm)
  obtain ⟨b, o, rfl, a0⟩ := ha.at_ 0 x0 rfl
  have s0 := hs x0 (by simp)
  simp only [Nat.zero_mul, Nat.add_zero, Nat.one_mul, Nat.reduceMul] at a0
  have nf : ¬ Foot g tv rs b := hq _ rfl
  exact ⟨_, _, rfl, .inl rfl, tonum_do g tv rs H w h hL b o cap x0 (ck_kind (hall 0 118 x0 rfl rfl).1) s0.txt s0.num a0⟩
 case inr.inr.inr.inr.inr.inr.inr.inr.inr.inr.inr.inl =>
  obtain ⟨x0, rfl⟩ := one_of (l := l) (by simpa [kindsP] using hk.symm)
  obtain ⟨b, o, rfl, a0⟩ := ha.at_ 0 x0 rfl
  have s0 := hs x0 (by simp)
  simp only [Nat.zero_mul, Nat.add_zero, Nat.one_mul, Nat.reduceMul] at a0
  have nf : ¬ Foot g tv rs b := hq _ rfl
  exact ⟨_, _, rfl, .inl rfl, tostring_any g tv rs H w h hL.pow b o cap x0 (ck_kind (hall 0 118 x0 rfl rfl).1) s0.num s0.txt a0⟩
 case inr.inr.inr.inr.inr.inr.inr.inr.inr.inr.inr.inr =>
  obtain ⟨x0, rfl⟩ := one_of (l := l) (by simpa [kindsP] using hk.symm)
  obtain ⟨b, o, rfl, a0⟩ := ha.at_ 0 x0 rfl
  have s0 := hs x0 (by simp)
  simp only [Nat.zero_mul, Nat.add_zero, Nat.one_mul, Nat.reduceMul] at a0
  have nf : ¬ Foot g tv rs b := hq _ rfl
  exact ⟨_, _, rfl, .inr rfl, type_any g tv rs H w h b o cap nb x0 (ck_kind (hall 0 118 x0 rfl rfl).1) a0 hla.lt hla.name⟩
end Go.Proofs.YtfagldjhibdfhaaGreatDoor
namespace Go.Proofs.YtfagldjhibdfhaaGreatDoor
open Go.RowKit
set_option linter.unusedVariables false
set_option linter.unusedSimpArgs false

theorem assert_fail (c : ByteArray) (w : World) : (Instr.typeAssert (.iface 73 (.agg #[.string c])) 20 73 true).run Tryz.prog w = .ok (.tuple #[.agg #[.string c], .bool true]) w := by kernel_rfl
def closeW (w : World) (B : Nat) (why : ByteArray) : World := ((((((w.setCell ⟨B, 0, none⟩ (.int .i64 0)).setCell ⟨B, 1, none⟩ (.int .i64 0)).setCell ⟨B, 2, none⟩ (.string ⟨#[]⟩)).setCell ⟨B + 1, 0, none⟩ (.string why)).setCell ⟨B + 1 + 1, 0, none⟩ (.bool true)).alloc (.cells #[.string why] 73)).drew
set_option maxRecDepth 100000 in
set_option maxHeartbeats 1000000 in
theorem close_panic (why : ByteArray) (B : Nat) (older : List PanicEntry) (w : World) (h6 : Blk w B 26 #[.int .i64 0, .int .i64 0, .string ⟨#[]⟩]) (h7 : Blk w (B + 1) 9 #[.string ⟨#[]⟩]) (h8 : Blk w (B + 1 + 1) 4 #[.bool false]) :
  CallsD Tryz.prog 36 #[.pointer (some ⟨B, 0, none⟩), .pointer (some ⟨B + 1, 0, none⟩), .pointer (some ⟨B + 1 + 1, 0, none⟩)] (.panicking ({ v := failV why, recovered := false } :: older)) w fun e u' w' =>
   e = .returned (.tuple #[]) ∧ u' = .panicking ({ v := failV why, recovered := true } :: older) ∧ w' = closeW w B why := by
 have ha := assert_fail why
 have a0 := h6.cell 0
 have a1 := h6.cell 1
 have a2 := h6.cell 2
 have a3 := h7.cell 0
 have a4 := h8.cell 0
 have f0 := h6.frozen 0
 have f1 := h6.frozen 1
 have f2 := h6.frozen 2
 have f3 := h7.frozen 0
 have f4 := h8.frozen 0
 have l0 := h6.lt
 have l1 := h7.lt
 have l2 := h8.lt
 simp only [List.getElem?_toArray, List.getElem?_cons_zero, List.getElem?_cons_succ] at a0 a1 a2 a3 a4
 refine callsD_of_wpS Tryz.func36 rfl fun c₀ cs hu => ?_
 unfold failV at hu
 apply wpS_seq
 apply wpS_region
 simp [wpOpsS, go_sem, recoverD, hu, Tryz.ntmps36, Exit.thenS]
 refine wpS_of_wp ?_
 change Code.wp _ _ _ { tmps := #[.pointer (some ⟨B, 0, none⟩), .pointer (some ⟨B + 1, 0, none⟩), .pointer (some ⟨B + 1 + 1, 0, none⟩), undef, undef, undef, .iface 73 (.agg #[.string why]), undef, undef, undef, undef, undef, undef, undef, undef], defers := [] } w
 generalize hcs : ({ c₀ with mode := FrameMode.panicking ({ v := .iface 73 (.agg #[.string why]), recovered := true } :: older) } :: cs : List Frame) = cs'
 go_wp2_with fail
 go_region
 subst hcs
 rename_i Q'
 simp [Q', Exit.then, Exit.inBlock, bodyPostS, results, Tryz.results36, failV, closeW]
theorem close_idle (b6 b7 b8 : Value) (w : World) :
  CallsD Tryz.prog 36 #[b6, b7, b8] .returning w fun e u' w' => e = .returned (.tuple #[]) ∧ u' = .returning ∧ w' = w := by
 refine callsD_of_wpS Tryz.func36 rfl fun c₀ cs hu => ?_
 apply wpS_seq
 apply wpS_region
 simp [wpOpsS, go_sem, recoverD, hu, Tryz.ntmps36, Exit.thenS]
 refine wpS_of_wp ?_
 go_wp2_with fail
 cases c₀
 simp_all [bodyPostS, results, Tryz.results36, Exit.inBlock]
end Go.Proofs.YtfagldjhibdfhaaGreatDoor
namespace Go.Proofs.YtfagldjhibdfhaaGreatDoor
open Go.RowKit
set_option linter.unusedVariables false
set_option linter.unusedSimpArgs false

def CallE (w : World) (g : Nat) (tv : Value) (rs : List (Nat × Nat)) (H : Hp) (name : ByteArray) (l : List Vl) (e : Ending) (w' : World) : Prop :=
 e = .returned (.tuple #[(callV H name l).v, .string (callW H name l), .bool (callB name)]) ∧ HStep w g tv rs w' (callH H name l)
structure Faces (w : World) (B : Nat) (x : Vl) (s : ByteArray) (b : Bool) : Prop where
 v : Blk w B 26 #[.int .i64 x.k, .int .i64 x.n, .string x.s]
 s : Blk w (B + 1) 9 #[.string s]
 b : Blk w (B + 1 + 1) 4 #[.bool b]
theorem Faces.ext {w w' : World} {B : Nat} {x : Vl} {s : ByteArray} {b : Bool} (h : Faces w B x s b) (he : Ext w w') : Faces w' B x s b := ⟨h.v.ext he, h.s.ext he, h.b.ext he⟩
theorem Faces.new (w : World) : Faces (((w.alloc (.cells #[.int .i64 0, .int .i64 0, .string ⟨#[]⟩] 26)).alloc (.cells #[.string ⟨#[]⟩] 9)).alloc (.cells #[.bool false] 4)) w.heap.size ⟨0, 0, ⟨#[]⟩⟩ ⟨#[]⟩ false :=
 ⟨((Blk.new w _ _).alloc _).alloc _, by
  have h1 : Blk ((w.alloc (.cells #[.int .i64 0, .int .i64 0, .string ⟨#[]⟩] 26)).alloc (.cells #[.string ⟨#[]⟩] 9)) (w.heap.size + 1) 9 #[.string ⟨#[]⟩] := by
   have := Blk.new (w.alloc (.cells #[.int .i64 0, .int .i64 0, .string ⟨#[]⟩] 26)) 9 #[.string ⟨#[]⟩]
   rwa [size_alloc] at this
  exact h1.alloc _, by
  have h1 := Blk.new ((w.alloc (.cells #[.int .i64 0, .int .i64 0, .string ⟨#[]⟩] 26)).alloc (.cells #[.string ⟨#[]⟩] 9)) 4 #[.bool false]
  rwa [size_alloc, size_alloc] at h1⟩
theorem Faces.put {w : World} {B : Nat} {x : Vl} {s : ByteArray} {b : Bool} (h : Faces w B x s b) (y : Vl) (t : ByteArray) (c : Bool) :
    Faces (((((w.setCell ⟨B, 0, none⟩ (.int .i64 y.k)).setCell ⟨B, 1, none⟩ (.int .i64 y.n)).setCell ⟨B, 2, none⟩ (.string y.s)).setCell ⟨B + 1, 0, none⟩ (.string t)).setCell ⟨B + 1 + 1, 0, none⟩ (.bool c)) B y t c :=
  ⟨((put3 h.v (.int .i64 y.k) (.int .i64 y.n) (.string y.s)).far (by show ¬ B = B + 1; omega) _).far (by show ¬ B = B + 1 + 1; omega) _,
   Blk.far (by simpa using ((((h.s.far (p := ⟨B, 0, none⟩) (by show ¬ B + 1 = B; omega) (.int .i64 y.k)).far (p := ⟨B, 1, none⟩) (by show ¬ B + 1 = B; omega) (.int .i64 y.n)).far (p := ⟨B, 2, none⟩) (by show ¬ B + 1 = B; omega) (.string y.s)).set_ 0 (.string t))) (by show ¬ B + 1 = B + 1 + 1; omega) _,
   by simpa using (((((h.b.far (p := ⟨B, 0, none⟩) (by show ¬ B + 1 + 1 = B; omega) (.int .i64 y.k)).far (p := ⟨B, 1, none⟩) (by show ¬ B + 1 + 1 = B; omega) (.int .i64 y.n)).far (p := ⟨B, 2, none⟩) (by show ¬ B + 1 + 1 = B; omega) (.string y.s)).far (p := ⟨B + 1, 0, none⟩) (by show ¬ B + 1 + 1 = B + 1; omega) (.string t)).set_ 0 (.bool c))⟩
theorem Faces.put_ext {w W : World} {B : Nat} (he : Ext w W) (hB : w.heap.size ≤ B) (a0 a1 a2 a3 a4 : Value) :
  Ext w (((((W.setCell ⟨B, 0, none⟩ a0).setCell ⟨B, 1, none⟩ a1).setCell ⟨B, 2, none⟩ a2).setCell ⟨B + 1, 0, none⟩ a3).setCell ⟨B + 1 + 1, 0, none⟩ a4) :=
 ((((he.setCell (p := ⟨B, 0, none⟩) hB _).setCell (p := ⟨B, 1, none⟩) hB _).setCell (p := ⟨B, 2, none⟩) hB _).setCell (p := ⟨B + 1, 0, none⟩) (by show w.heap.size ≤ B + 1; omega) _).setCell (p := ⟨B + 1 + 1, 0, none⟩) (by show w.heap.size ≤ B + 1 + 1; omega) _
theorem Faces.put_hs {w W : World} {g : Nat} {tv tv' : Value} {rs rs' : List (Nat × Nat)} {H' : Hp} {B : Nat} (h : HS w g tv rs W tv' rs' H') (hB : w.heap.size ≤ B) (n0 : ¬ Foot g tv' rs' B) (n1 : ¬ Foot g tv' rs' (B + 1)) (n2 : ¬ Foot g tv' rs' (B + 1 + 1)) (a0 a1 a2 a3 a4 : Value) :
  HS w g tv rs (((((W.setCell ⟨B, 0, none⟩ a0).setCell ⟨B, 1, none⟩ a1).setCell ⟨B, 2, none⟩ a2).setCell ⟨B + 1, 0, none⟩ a3).setCell ⟨B + 1 + 1, 0, none⟩ a4) tv' rs' H' :=
 ((h.set3 hB n0 a0 a1 a2).setCell (p := ⟨B + 1, 0, none⟩) (by show w.heap.size ≤ B + 1; omega) n1 _).setCell (p := ⟨B + 1 + 1, 0, none⟩) (by show w.heap.size ≤ B + 1 + 1; omega) n2 _
theorem face_end (W : World) (B : Nat) (x : Vl) (s : ByteArray) (b : Bool) (hF : Faces W B x s b) (R : Ending → World → Prop) (hR : R (.returned (.tuple #[x.v, .string s, .bool b])) W) (x0 x1 x2 x3 x4 x5 x9 x10 x11 x12 x13 x14 x15 x16 x17 x18 x19 x20 x21 x22 x23 x24 x25 x26 x27 x28 x29 x30 x31 x32 x33 x34 x35 x36 x37 x38 x39 x40 x41 x42 : Value) :
  bodyPostD Tryz.prog Tryz.f15 R Exit.ret { tmps := #[x0, x1, x2, x3, x4, x5, .pointer (some ⟨B, 0, none⟩), .pointer (some ⟨B + 1, 0, none⟩), .pointer (some ⟨B + 1 + 1, 0, none⟩), x9, x10, x11, x12, x13, x14, x15, x16, x17, x18, x19, x20, x21, x22, x23, x24, x25, x26, x27, x28, x29, x30, x31, x32, x33, x34, x35, x36, x37, x38, x39, x40, x41, x42], defers := [] } W := by
 have d0 := hF.v.cell 0
 have d1 := hF.v.cell 1
 have d2 := hF.v.cell 2
 have d3 := hF.s.cell 0
 have d4 := hF.b.cell 0
 simp only [List.getElem?_toArray, List.getElem?_cons_zero, List.getElem?_cons_succ] at d0 d1 d2 d3 d4
 simp [bodyPostD, Leaves, settle, results, Tryz.results15, go_sem, d0, d1, d2, d3, d4]
 exact hR
theorem face_done (W : World) (B : Nat) (x : Vl) (s : ByteArray) (b : Bool) (hF : Faces W B x s b) (R : Ending → World → Prop) (hR : R (.returned (.tuple #[x.v, .string s, .bool b])) W) (x0 x1 x2 x3 x4 x5 x9 x10 x11 x12 x13 x14 x15 x16 x17 x18 x19 x20 x21 x22 x23 x24 x25 x26 x27 x28 x29 x30 x31 x32 x33 x34 x35 x36 x37 x38 x39 x40 x41 x42 : Value) :
  Leaves Tryz.prog Tryz.f15 #[x0, x1, x2, x3, x4, x5, .pointer (some ⟨B, 0, none⟩), .pointer (some ⟨B + 1, 0, none⟩), .pointer (some ⟨B + 1 + 1, 0, none⟩), x9, x10, x11, x12, x13, x14, x15, x16, x17, x18, x19, x20, x21, x22, x23, x24, x25, x26, x27, x28, x29, x30, x31, x32, x33, x34, x35, x36, x37, x38, x39, x40, x41, x42] R [{ target := Target.fn (Fn.func 36) #[.pointer (some ⟨B, 0, none⟩), .pointer (some ⟨B + 1, 0, none⟩), .pointer (some ⟨B + 1 + 1, 0, none⟩)], args := #[] }] .returning W := by
 have d0 := hF.v.cell 0
 have d1 := hF.v.cell 1
 have d2 := hF.v.cell 2
 have d3 := hF.s.cell 0
 have d4 := hF.b.cell 0
 simp only [List.getElem?_toArray, List.getElem?_cons_zero, List.getElem?_cons_succ] at d0 d1 d2 d3 d4
 refine leaves_cons (f := 36) (args := #[.pointer (some ⟨B, 0, none⟩), .pointer (some ⟨B + 1, 0, none⟩), .pointer (some ⟨B + 1 + 1, 0, none⟩)]) (by simp) (by simp [go_sem]) ?_
 refine (close_idle _ _ _ W).mono ?_
 rintro e u' w1 ⟨rfl, rfl, rfl⟩
 show Leaves _ _ _ _ _ (settle _) w1
 have hs : settle .returning = .returning := rfl
 rw [hs]
 simp [Leaves, settle, results, Tryz.results15, go_sem, d0, d1, d2, d3, d4]
 exact hR
theorem face_door (W : World) (B : Nat) (why : ByteArray) (hF : Faces W B ⟨0, 0, ⟨#[]⟩⟩ ⟨#[]⟩ false) (R : Ending → World → Prop) (hR : R (.returned (.tuple #[Vl.zero.v, .string why, .bool true])) (closeW W B why)) (x0 x1 x2 x3 x4 x5 x9 x10 x11 x12 x13 x14 x15 x16 x17 x18 x19 x20 x21 x22 x23 x24 x25 x26 x27 x28 x29 x30 x31 x32 x33 x34 x35 x36 x37 x38 x39 x40 x41 x42 : Value) :
  Leaves Tryz.prog Tryz.f15 #[x0, x1, x2, x3, x4, x5, .pointer (some ⟨B, 0, none⟩), .pointer (some ⟨B + 1, 0, none⟩), .pointer (some ⟨B + 1 + 1, 0, none⟩), x9, x10, x11, x12, x13, x14, x15, x16, x17, x18, x19, x20, x21, x22, x23, x24, x25, x26, x27, x28, x29, x30, x31, x32, x33, x34, x35, x36, x37, x38, x39, x40, x41, x42] R [{ target := Target.fn (Fn.func 36) #[.pointer (some ⟨B, 0, none⟩), .pointer (some ⟨B + 1, 0, none⟩), .pointer (some ⟨B + 1 + 1, 0, none⟩)], args := #[] }] (.panicking [{ v := failV why, recovered := false }]) W := by
 refine leaves_cons (f := 36) (args := #[.pointer (some ⟨B, 0, none⟩), .pointer (some ⟨B + 1, 0, none⟩), .pointer (some ⟨B + 1 + 1, 0, none⟩)]) (by simp) (by simp [go_sem]) ?_
 refine (close_panic why B [] W hF.v hF.s hF.b).mono ?_
 rintro e u' w1 ⟨rfl, rfl, rfl⟩
 show Leaves _ _ _ _ _ (settle _) _
 have hs : settle (.panicking [{ v := failV why, recovered := true }]) = .returning := rfl
 rw [hs]
 have F1 : Faces (closeW W B why) B ⟨0, 0, ⟨#[]⟩⟩ why true := by
  have h1 := hF.put ⟨0, 0, ⟨#[]⟩⟩ why true
  exact ⟨(h1.v.alloc _).drew, (h1.s.alloc _).drew, (h1.b.alloc _).drew⟩
 generalize closeW W B why = W2 at F1 hR ⊢
 have d0 := F1.v.cell 0
 have d1 := F1.v.cell 1
 have d2 := F1.v.cell 2
 have d3 := F1.s.cell 0
 have d4 := F1.b.cell 0
 simp only [List.getElem?_toArray, List.getElem?_cons_zero, List.getElem?_cons_succ] at d0 d1 d2 d3 d4
 simp [Leaves, settle, results, Tryz.results15, go_sem, d0, d1, d2, d3, d4]
 exact hR
theorem closeW_hs {w W : World} {g : Nat} {tv tv' : Value} {rs rs' : List (Nat × Nat)} {H' : Hp} {B : Nat} (h : HS w g tv rs W tv' rs' H') (hB : w.heap.size ≤ B) (n0 : ¬ Foot g tv' rs' B) (n1 : ¬ Foot g tv' rs' (B + 1)) (n2 : ¬ Foot g tv' rs' (B + 1 + 1)) (why : ByteArray) :
  HS w g tv rs (closeW W B why) tv' rs' H' := (Faces.put_hs h hB n0 n1 n2 _ _ _ _ _).ext (((Ext.refl _).alloc _).drew)
theorem CallE.yes {w w' : World} {g : Nat} {tv tv' : Value} {rs rs' : List (Nat × Nat)} {H : Hp} {name : ByteArray} {l : List Vl} {r : Rs} (hr : callR H name l = some r) (hw : r.w = sNone) (hs : HS w g tv rs w' tv' rs' r.H) :
  CallE w g tv rs H name l (.returned (.tuple #[r.v.v, .string ⟨#[]⟩, .bool true])) w' := by
 have hb : callB name = true := by
  unfold callR at hr
  unfold callB
  cases h : libIdx name with
  | none => rw [h] at hr; cases hr
  | some _ => rfl
 refine ⟨?_, ?_⟩
 ·unfold callV callW
  rw [hr, hb]
  simp only [hw, if_true]
  rfl
 ·unfold callH
  rw [hr]
  exact hs.step
theorem CallE.no {w w' : World} {g : Nat} {tv tv' : Value} {rs rs' : List (Nat × Nat)} {H : Hp} {name : ByteArray} {l : List Vl} {r : Rs} (hr : callR H name l = some r) (hw : ¬ r.w = sNone) (hs : HS w g tv rs w' tv' rs' r.H) :
  CallE w g tv rs H name l (.returned (.tuple #[Vl.zero.v, .string r.w, .bool true])) w' := by
 have hb : callB name = true := by
  unfold callR at hr
  unfold callB
  cases h : libIdx name with
  | none => rw [h] at hr; cases hr
  | some _ => rfl
 refine ⟨?_, ?_⟩
 ·unfold callV callW
  rw [hr, hb]
  simp only [if_neg hw]
 ·unfold callH
  rw [hr]
  exact hs.step
theorem kind_nil {f : Nat} (hf : f < 13) (h : kindS f = []) : f = 1 := by
 have hc : f = 0 ∨ f = 1 ∨ f = 2 ∨ f = 3 ∨ f = 4 ∨ f = 5 ∨ f = 6 ∨ f = 7 ∨ f = 8 ∨ f = 9 ∨ f = 10 ∨ f = 11 ∨ f = 12 := by omega
 rcases hc with rfl | rfl | rfl | rfl | rfl | rfl | rfl | rfl | rfl | rfl | rfl | rfl | rfl <;> first | rfl | cases h
theorem lib_enter (nb f : Nat) (hf : f < 13) : ∃ k cp, fnV nb f = .func (.func k) #[] cp ∧ ∀ (args : Array Value) (W : World), (callFunc k args).run Tryz.prog W = .ok (.enter k args) W := by
 have hc : f = 0 ∨ f = 1 ∨ f = 2 ∨ f = 3 ∨ f = 4 ∨ f = 5 ∨ f = 6 ∨ f = 7 ∨ f = 8 ∨ f = 9 ∨ f = 10 ∨ f = 11 ∨ f = 12 := by omega
 rcases hc with rfl | rfl | rfl | rfl | rfl | rfl | rfl | rfl | rfl | rfl | rfl | rfl | rfl
 ·exact ⟨_, _, rfl, enters_of Tryz.func66 (by kernel_rfl) rfl⟩
 ·exact ⟨_, _, rfl, enters_of Tryz.func68 (by kernel_rfl) rfl⟩
 ·exact ⟨_, _, rfl, enters_of Tryz.func69 (by kernel_rfl) rfl⟩
 ·exact ⟨_, _, rfl, enters_of Tryz.func64 (by kernel_rfl) rfl⟩
 ·exact ⟨_, _, rfl, enters_of Tryz.func70 (by kernel_rfl) rfl⟩
 ·exact ⟨_, _, rfl, enters_of Tryz.func72 (by kernel_rfl) rfl⟩
 ·exact ⟨_, _, rfl, enters_of Tryz.func58 (by kernel_rfl) rfl⟩
 ·exact ⟨_, _, rfl, enters_of Tryz.func71 (by kernel_rfl) rfl⟩
 ·exact ⟨_, _, rfl, enters_of Tryz.func61 (by kernel_rfl) rfl⟩
 ·exact ⟨_, _, rfl, enters_of Tryz.func60 (by kernel_rfl) rfl⟩
 ·exact ⟨_, _, rfl, enters_of Tryz.func57 (by kernel_rfl) rfl⟩
 ·exact ⟨_, _, rfl, enters_of Tryz.func55 (by kernel_rfl) rfl⟩
 ·exact ⟨_, _, rfl, enters_of Tryz.func52 (by kernel_rfl) rfl⟩
theorem kind_few (f : Nat) : (kindS f).length ≤ 1000 := by
 unfold kindS
 split <;> simp
theorem len_call (g : Nat) (tv : Value) (rs : List (Nat × Nat)) (H : Hp) (w : World) (h : HeapIn w g tv rs H) (h64 : H.tabs.length ≤ 9223372036854775807) :
  Calls Tryz.prog 27 #[.pointer (some ⟨g, 0, none⟩), vv 3 0 ⟨#[]⟩] w fun e w' => e = .returned (.tuple #[.int .i64 0, .string ⟨#[]⟩]) ∧ Ext w w' :=
 len_any g tv rs H ⟨3, 0, ⟨#[]⟩⟩ w h h64
set_option maxRecDepth 100000 in
set_option maxHeartbeats 2000000 in
theorem call_none (w : World) (gv : Value) (name : ByteArray) (q : Option Addr) (m cap : Nat) (hi : libIdx name = none) :
  Calls Tryz.prog 15 #[gv, .string name, .slice q m cap] w fun e w' => e = .returned (.tuple #[Vl.zero.v, .string sNone, .bool false]) ∧ Ext w w' := by
 have HF := Lib.hid (Faces.new w)
 have HE := Lib.hid ((((Ext.refl w).alloc (.cells #[.int .i64 0, .int .i64 0, .string ⟨#[]⟩] 26)).alloc (.cells #[.string ⟨#[]⟩] 9)).alloc (.cells #[.bool false] 4))
 have HI := Lib.hid hi
 clear hi
 go_enter_defers Tryz.func15, Tryz.ntmps15
 go_wp2_with fail
 refine (functions_any _).mono ?_
 rintro e w1 ⟨r, nb, kv, rfl, hl, he, hr⟩
 have hg := lib_get nb kv name
 rw [HI.out, Option.map_none] at hg
 have lk := run_mget_none keyed_str Tryz.underlying70 Tryz.underlying9 hl.map name _ (zeroFn w1) hg true
 simp only [if_true] at lk
 have F1 := HF.out.ext he
 have E1 := Lib.hid (HE.out.trans he)
 have a0 := F1.v.cell 0
 have a1 := F1.v.cell 1
 have a2 := F1.v.cell 2
 have a3 := F1.s.cell 0
 have a4 := F1.b.cell 0
 have f0 := F1.v.frozen 0
 have f1 := F1.v.frozen 1
 have f2 := F1.v.frozen 2
 have f3 := F1.s.frozen 0
 have f4 := F1.b.frozen 0
 have l0 := F1.v.lt
 have l1 := F1.s.lt
 have l2 := F1.b.lt
 simp only [List.getElem?_toArray, List.getElem?_cons_zero, List.getElem?_cons_succ] at a0 a1 a2 a3 a4
 have HF1 := Lib.hid F1
 clear hg hl he F1
 go_wp2_with fail
 exact face_end _ _ _ _ _ (let h1 := HF1.out.put ⟨0, 0, ⟨#[]⟩⟩ ⟨#[]⟩ false; ⟨h1.v.alloc _, h1.s.alloc _, h1.b.alloc _⟩) _ ⟨rfl, (Faces.put_ext E1.out (Nat.le_refl _) _ _ _ _ _).alloc _⟩ _ _ _ _ _ _ _ _ _ _ _ _ _ _ _ _ _ _ _ _ _ _ _ _ _ _ _ _ _ _ _ _ _ _ _ _ _ _ _ _
set_option maxRecDepth 100000 in
set_option maxHeartbeats 4000000 in
theorem call_some (g : Nat) (tv : Value) (rs : List (Nat × Nat)) (H : Hp) (w : World) (h : HeapIn w g tv rs H) (hL : LLaid w) (hlen : H.tabs.length ≤ 1000000000) (name : ByteArray) (f : Nat) (hi : libIdx name = some f) (q : Option Addr) (l : List Vl) (cap : Nat) (ha : ArgsAt w q l)
  (hs : askW H f l = sNone → ∀ x ∈ l, Sound x) (hq : ∀ a, q = some a → ¬ Foot g tv rs a.block) :
  Calls Tryz.prog 15 #[.pointer (some ⟨g, 0, none⟩), .string name, .slice q l.length cap] w (CallE w g tv rs H name l) := by
 have HF := Lib.hid (Faces.new w)
 have HE := Lib.hid ((((Ext.refl w).alloc (.cells #[.int .i64 0, .int .i64 0, .string ⟨#[]⟩] 26)).alloc (.cells #[.string ⟨#[]⟩] 9)).alloc (.cells #[.bool false] 4))
 have HI := Lib.hid hi
 have hf := libIdx_lt hi
 have HH := Lib.hid h
 have HLD := Lib.hid hL
 have HA := Lib.hid ha
 have HS0 := Lib.hid hs
 have HQ := Lib.hid hq
 have h64 : H.tabs.length ≤ 9223372036854775807 := by omega
 have hmf : ∀ (fn : Fn) (first cap : Array Value) (w : World), (Instr.makeFunc fn first cap).run Tryz.prog w = .ok (.func fn first cap) w := fun _ _ _ _ => rfl
 have HN : Hid (∀ k, w.heap.size ≤ k → ¬ Foot g tv rs k) := Lib.hid (fun k hk hx => by have := h.low hx; omega)
 clear hi h hL ha hs hq
 go_enter_defers Tryz.func15, Tryz.ntmps15
 go_wp2_with fail
 refine (functions_any _).mono ?_
 rintro e w1 ⟨r, nb, kv, rfl, hl, he, hr⟩
 have hg := lib_get nb kv name
 rw [HI.out, Option.map_some] at hg
 obtain ⟨kq, hkq⟩ := (hl.kind f hf).slice
 obtain ⟨fn, cp, hfn⟩ := fnV_func nb f
 rw [hkq, hfn] at hg
 have lk := run_mget keyed_str Tryz.underlying70 Tryz.underlying9 hl.map name _ hg true
 simp only [if_true] at lk
 have F1 := Lib.hid (HF.out.ext he)
 have E1 := Lib.hid (HE.out.trans he)
 have HKQ := Lib.hid hkq
 have HFN := Lib.hid hfn
 have HLA := Lib.hid hl
 have HBX := Lib.hid (Blk.new w1 68 #[.slice kq (kindS f).length (kindS f).length, .func fn #[] cp])
 have EA := Lib.hid (E1.out.alloc (.cells #[.slice kq (kindS f).length (kindS f).length, .func fn #[] cp] 68))
 have FA := Lib.hid (F1.out.ext ((Ext.refl w1).alloc (.cells #[.slice kq (kindS f).length (kindS f).length, .func fn #[] cp] 68)))
 have LAA := Lib.hid (HLA.out.ext ((Ext.refl w1).alloc (.cells #[.slice kq (kindS f).length (kindS f).length, .func fn #[] cp] 68)))
 obtain ⟨kn, hkn⟩ : ∃ kn, (kindS f).length = kn := ⟨_, rfl⟩
 rw [hkn] at HKQ HBX EA FA LAA lk
 have HKN := Lib.hid hkn
 clear hg hl he hkq hfn hkn F1 HLA
 go_wp2_with fail
 generalize w1.alloc (.cells #[.slice kq kn kn, .func fn #[] cp] 68) = wa at HBX EA FA LAA ⊢
 refine (text_any _ _).mono ?_
 rintro e w2 ⟨rfl, e2⟩
 have E2 := Lib.hid (EA.out.trans e2)
 have HB2 := Lib.hid (HBX.out.ext e2)
 have F2 := Lib.hid (FA.out.ext e2)
 have LA2 := Lib.hid (LAA.out.ext e2)
 clear e2 HBX EA FA LAA
 go_wp2_with fail
 refine (len_call g tv rs H w2 (HH.out.ext E2.out) h64).mono ?_
 rintro e w3 ⟨rfl, e3⟩
 have E3 := Lib.hid (E2.out.trans e3)
 have HB3 := Lib.hid (HB2.out.ext e3)
 have F3 := Lib.hid (F2.out.ext e3)
 have LA3 := Lib.hid (LA2.out.ext e3)
 have b0 := HB3.out.cell 0
 simp only [List.getElem?_toArray, List.getElem?_cons_zero, List.getElem?_cons_succ] at b0
 have lb := HB3.out.lt
 clear e3 HB2 E2 F2 LA2
 go_wp2_with fail
 have hka : KindAt w3 (.slice kq kn kn) (kindS f) := by have h1 := LA3.out.kind f hf; rwa [HKQ.out] at h1
 refine (asked_any g tv rs H w3 (HH.out.ext E3.out) h64 _ (kindS f) hka (fun hn => by
  have : f = 1 := kind_nil hf hn
  subst this
  rw [← HKQ.out]; exact LA3.out.chr) (kind_few f) q l cap (HA.out.ext E3.out)).mono ?_
 rintro e w4 ⟨hask, e4⟩
 rw [← askW_eq H f l hf] at hask
 have E4 := Lib.hid (E3.out.trans e4)
 have HB4 := Lib.hid (HB3.out.ext e4)
 have F4 := Lib.hid (F3.out.ext e4)
 have LA4 := Lib.hid (LA3.out.ext e4)
 clear e4 HB3 E3 F3 LA3 hka b0 lb
 rcases Decidable.em (askW H f l = sNone) with hw | hw
 ·obtain rfl := hask.1 hw
  obtain ⟨k, cp2, hf2, hcp, hdo⟩ := do_call g tv rs H w4 (HH.out.ext E4.out) (HLD.out.ext E4.out) hlen r nb kv LA4.out f hf q l cap (HA.out.ext E4.out) (HS0.out hw) HQ.out hw
  obtain ⟨k3, cp3, hf3, hcf⟩ := lib_enter nb f hf
  have hke : Value.func (.func k) #[] cp2 = Value.func (.func k3) #[] cp3 := hf2.symm.trans hf3
  obtain rfl : k = k3 := by cases hke; rfl
  have hfe : Value.func fn #[] cp = Value.func (.func k) #[] cp2 := HFN.out.symm.trans hf2
  obtain ⟨rfl, rfl⟩ : fn = .func k ∧ cp = cp2 := by cases hfe; exact ⟨rfl, rfl⟩
  have HW := Lib.hid hw
  have HDO := Lib.hid hdo
  have b1 := HB4.out.cell 1
  simp only [List.getElem?_toArray, List.getElem?_cons_zero, List.getElem?_cons_succ] at b1
  have lb := HB4.out.lt
  have HR : Hid (callR H name l = some (doR H f l)) := Lib.hid (by unfold callR; rw [HI.out, Option.map_some, if_pos hw])
  obtain ⟨R, hR⟩ : ∃ R, doR H f l = R := ⟨_, rfl⟩
  rw [hR] at HDO HR
  clear hf2 hfe hask hw hdo hf3 hke
  rcases hcp with rfl | rfl
  all_goals
   go_wp2_with fail
   refine HDO.out.mono ?_
   rintro e w5 ⟨hd, tv5, rs5, hs5⟩
   have F5 := Lib.hid (show Faces w5 w.heap.size ⟨0, 0, ⟨#[]⟩⟩ ⟨#[]⟩ false from ⟨F4.out.v.step hs5 (HN.out _ (by omega)), F4.out.s.step hs5 (HN.out _ (by omega)), F4.out.b.step hs5 (HN.out _ (by omega))⟩)
   have n0 := hs5.notin F4.out.v.lt (HN.out _ (by omega))
   have n1 := hs5.notin F4.out.s.lt (HN.out _ (by omega))
   have n2 := hs5.notin F4.out.b.lt (HN.out _ (by omega))
   have H5 := Lib.hid (HS.pre E4.out hs5)
   clear hs5
   rcases Decidable.em (R.w = sNone) with hrw | hrw
   ·obtain rfl := hd.yes hrw
    have F1 := F5.out
    have a0 := F1.v.cell 0
    have a1 := F1.v.cell 1
    have a2 := F1.v.cell 2
    have a3 := F1.s.cell 0
    have a4 := F1.b.cell 0
    have f0 := F1.v.frozen 0
    have f1 := F1.v.frozen 1
    have f2 := F1.v.frozen 2
    have f3 := F1.s.frozen 0
    have f4 := F1.b.frozen 0
    have l0 := F1.v.lt
    have l1 := F1.s.lt
    have l2 := F1.b.lt
    simp only [List.getElem?_toArray, List.getElem?_cons_zero, List.getElem?_cons_succ] at a0 a1 a2 a3 a4
    clear F1 hd
    have HRW := Lib.hid hrw
    clear hrw
    go_wp2_with fail
    exact face_done _ _ _ _ _ (F5.out.put R.v ⟨#[]⟩ true) _ (CallE.yes HR.out HRW.out (Faces.put_hs H5.out (Nat.le_refl _) n0 n1 n2 _ _ _ _ _)) _ _ _ _ _ _ _ _ _ _ _ _ _ _ _ _ _ _ _ _ _ _ _ _ _ _ _ _ _ _ _ _ _ _ _ _ _ _ _ _
   ·have he := hd.no hrw
    unfold Fails at he
    subst he
    go_wp2_with fail
    exact face_door _ _ _ F5.out _ (CallE.no HR.out hrw (closeW_hs H5.out (Nat.le_refl _) n0 n1 n2 _)) _ _ _ _ _ _ _ _ _ _ _ _ _ _ _ _ _ _ _ _ _ _ _ _ _ _ _ _ _ _ _ _ _ _ _ _ _ _ _ _
 ·have he := hask.2 hw
  unfold Fails at he
  subst he
  have HR : callR H name l = some (.no H (askW H f l)) := by unfold callR; rw [HI.out, Option.map_some, if_neg hw]
  go_wp2_with fail
  exact face_door _ _ _ F4.out _ (CallE.no (r := .no H (askW H f l)) HR hw (closeW_hs (HS.of_ext HH.out E4.out) (Nat.le_refl _) (HN.out _ (Nat.le_refl _)) (HN.out _ (by omega)) (HN.out _ (by omega)) _)) _ _ _ _ _ _ _ _ _ _ _ _ _ _ _ _ _ _ _ _ _ _ _ _ _ _ _ _ _ _ _ _ _ _ _ _ _ _ _ _
end Go.Proofs.YtfagldjhibdfhaaGreatDoor
namespace Go.Proofs.YtfagldjhibdfhaaGreatDoor
open Go.RowKit
set_option linter.unusedVariables false
set_option linter.unusedSimpArgs false

structure NH (w0 w : World) (g : Nat) (H : Hp) (L : List (Nat × List Vl)) : Prop where
 ex : ∃ tv rs, HeapIn w g tv rs H ∧ (∀ x, Foot g tv rs x → w0.heap.size ≤ x) ∧ ∀ p ∈ L, ¬ Foot g tv rs p.1
 ext : Ext w0 w
 own : ∀ p ∈ L, w0.heap.size ≤ p.1 ∧ Blk w p.1 26 (flat p.2).toArray
 dist : (L.map (·.1)).Nodup
section
variable {w0 w w' : World} {g k : Nat} {H H' : Hp} {L L' : List (Nat × List Vl)} {l : List Vl}
theorem NH.ext' (h : NH w0 w g H L) (he : Ext w w') : NH w0 w' g H L := by
 obtain ⟨tv, rs, h1, h2, h3⟩ := h.ex
 exact ⟨⟨tv, rs, h1.ext he, h2, h3⟩, h.ext.trans he, fun p hp => ⟨(h.own p hp).1, (h.own p hp).2.ext he⟩, h.dist⟩
theorem NH.sub (h : NH w0 w g H L) (hs : L'.Sublist L) : NH w0 w g H L' := by
 obtain ⟨tv, rs, h1, h2, h3⟩ := h.ex
 exact ⟨⟨tv, rs, h1, h2, fun p hp => h3 p (hs.subset hp)⟩, h.ext, fun p hp => h.own p (hs.subset hp), h.dist.sublist (hs.map _)⟩
theorem NH.new (h : NH w0 w g H L) (cs : Array Value) (hcs : cs = (flat l).toArray) : NH w0 (w.alloc (.cells cs 26)) g H ((w.heap.size, l) :: L) := by
 subst hcs
 obtain ⟨tv, rs, h1, h2, h3⟩ := h.ex
 have hE := (Ext.refl w).alloc (.cells (flat l).toArray 26)
 refine ⟨⟨tv, rs, h1.ext hE, h2, ?_⟩, h.ext.trans hE, ?_, ?_⟩
 ·intro p hp
  rcases List.mem_cons.1 hp with rfl | hp
  ·intro hf
   exact Nat.lt_irrefl _ (h1.low hf)
  ·exact h3 p hp
 ·intro p hp
  rcases List.mem_cons.1 hp with rfl | hp
  ·exact ⟨h.ext.le, Blk.new _ _ _⟩
  ·exact ⟨(h.own p hp).1, (h.own p hp).2.ext hE⟩
 ·rw [List.map_cons, List.nodup_cons]
  refine ⟨fun hm => ?_, h.dist⟩
  obtain ⟨p, hp, e⟩ := List.mem_map.1 hm
  have := (h.own p hp).2.lt
  have e2 : p.1 = w.heap.size := e
  omega
theorem NH.put {x y : Vl} (h : NH w0 w g H ((k, [x]) :: L)) : NH w0 (((w.setCell ⟨k, 0, none⟩ (.int .i64 y.k)).setCell ⟨k, 1, none⟩ (.int .i64 y.n)).setCell ⟨k, 2, none⟩ (.string y.s)) g H ((k, [y]) :: L) := by
 obtain ⟨tv, rs, h1, h2, h3⟩ := h.ex
 have hk := h.own (k, [x]) (by simp)
 have hnk := h3 (k, [x]) (by simp)
 have hfar : ∀ j, j ≠ k → (((w.setCell ⟨k, 0, none⟩ (.int .i64 y.k)).setCell ⟨k, 1, none⟩ (.int .i64 y.n)).setCell ⟨k, 2, none⟩ (.string y.s)).heap[j]? = w.heap[j]? := fun j hj =>
  (Below.heap_setCell _ _ _ j hj).trans ((Below.heap_setCell _ _ _ j hj).trans (Below.heap_setCell _ _ _ j hj))
 have hE := ((h.ext.setCell (p := ⟨k, 0, none⟩) hk.1 (.int .i64 y.k)).setCell (p := ⟨k, 1, none⟩) hk.1 (.int .i64 y.n)).setCell (p := ⟨k, 2, none⟩) hk.1 (.string y.s)
 refine ⟨⟨tv, rs, h1.of_heap fun j hj => hfar j ?_, h2, ?_⟩, hE, ?_, ?_⟩
 ·rintro rfl; exact hnk hj
 ·intro p hp
  rcases List.mem_cons.1 hp with rfl | hp
  ·exact hnk
  ·exact h3 p (by simp [hp])
 ·intro p hp
  rcases List.mem_cons.1 hp with rfl | hp
  ·exact ⟨hk.1, put3 hk.2 _ _ _⟩
  ·have hd := h.dist
   rw [List.map_cons, List.nodup_cons] at hd
   have hne : p.1 ≠ k := fun e => hd.1 (List.mem_map.2 ⟨p, hp, e⟩)
   exact ⟨(h.own p (by simp [hp])).1, (hfar _ hne).trans (h.own p (by simp [hp])).2⟩
 ·simpa using h.dist
theorem NH.did (h : NH w0 w g H L) (hd : ∀ tv rs, HeapIn w g tv rs H → HStep w g tv rs w' H' ) : NH w0 w' g H' L := by
 obtain ⟨tv, rs, h1, h2, h3⟩ := h.ex
 obtain ⟨tv', rs', hs⟩ := hd tv rs h1
 have hE : Ext w0 w' := hs.touch.to_ext h.ext h2
 refine ⟨⟨tv', rs', hs.heap, fun x hx => ?_, fun p hp => hs.notin (h.own p hp).2.lt (h3 p hp)⟩, hE, fun p hp => ⟨(h.own p hp).1, (hs.touch.block _ (h.own p hp).2.lt (h3 p hp)).trans (h.own p hp).2⟩, h.dist⟩
 rcases hs.foot x hx with hx | hx
 ·exact h2 x hx
 ·exact Nat.le_trans h.ext.le hx
theorem NH.args (h : NH w0 w g H L) (hm : (k, l) ∈ L) (hl : l.length ≤ 1048576) : ArgsAt w (some ⟨k, 0, none⟩) l := by
 refine ⟨hl, fun i x hx => ⟨k, 0, rfl, ?_⟩⟩
 have hb := (h.own _ hm).2
 obtain ⟨g1, g2, g3⟩ := flat_get l i x hx
 refine ⟨?_, ?_, ?_⟩
 ·rw [hb.cell]; simpa using g1
 ·rw [hb.cell]; simpa using g2
 ·rw [hb.cell]; simpa using g3
theorem NH.three {x : Vl} (h : NH w0 w g H L) (hm : (k, [x]) ∈ L) : w.cell? ⟨k, 0, none⟩ = some (.int .i64 x.k) ∧ w.cell? ⟨k, 1, none⟩ = some (.int .i64 x.n) ∧ w.cell? ⟨k, 2, none⟩ = some (.string x.s) ∧ w.frozen? ⟨k, 0, none⟩ = false ∧ w.frozen? ⟨k, 1, none⟩ = false ∧ w.frozen? ⟨k, 2, none⟩ = false :=
 Go.Proofs.YtfagldjhibdfhaaGreatDoor.three (h.own _ hm).2
theorem NH.lt {p : Nat × List Vl} (h : NH w0 w g H L) (hm : p ∈ L) : p.1 < w.heap.size := (h.own _ hm).2.lt
end
theorem nh_call {w0 w : World} {g k f : Nat} {H : Hp} {L : List (Nat × List Vl)} {l : List Vl} (h : NH w0 w g H L) (hm : (k, l) ∈ L) (hL : LLaid w) (hlen : H.tabs.length ≤ 1000000000) (hl : l.length ≤ 1048576) (name : ByteArray) (hi : libIdx name = some f) (hs : ∀ x ∈ l, Sound x) (cap : Nat) :
  Calls Tryz.prog 15 #[.pointer (some ⟨g, 0, none⟩), .string name, .slice (some ⟨k, 0, none⟩) l.length cap] w fun e w' =>
   e = .returned (.tuple #[(callV H name l).v, .string (callW H name l), .bool (callB name)]) ∧ NH w0 w' g (callH H name l) L := by
 obtain ⟨tv, rs, h1, h2, h3⟩ := h.ex
 refine (call_some g tv rs H w h1 hL hlen name f hi (some ⟨k, 0, none⟩) l cap (h.args hm hl) (fun _ => hs) (fun a ha => by rw [← Option.some.inj ha]; exact h3 _ hm)).mono ?_
 rintro e w' ⟨rfl, hst⟩
 obtain ⟨tv', rs', hs⟩ := hst
 refine ⟨rfl, ⟨⟨tv', rs', hs.heap, fun x hx => ?_, fun p hp => hs.notin (h.own p hp).2.lt (h3 p hp)⟩, hs.touch.to_ext h.ext h2, fun p hp => ⟨(h.own p hp).1, (hs.touch.block _ (h.own p hp).2.lt (h3 p hp)).trans (h.own p hp).2⟩, h.dist⟩⟩
 rcases hs.foot x hx with hx | hx
 ·exact h2 x hx
 ·exact Nat.le_trans h.ext.le hx
theorem nh_new {w0 w : World} (c : Int) (he : Ext w0 w) (hc : c ≤ 9223372036854775807) (hc' : -9223372036854775808 ≤ c) :
  Calls Tryz.prog 14 #[.int .i64 c] w fun e w' => ∃ g, e = .returned (.pointer (some ⟨g, 0, none⟩)) ∧ NH w0 w' g (newH c) [] := by
 refine (new_any c w hc hc').mono ?_
 rintro e w' ⟨rfl, rfl⟩
 refine ⟨_, rfl, ⟨.slice none 0 0, [], ⟨Blk.new _ _ _, World.ownsRow_nil _ _ _ _, rfl, fun i r T hr => by simp at hr, List.nodup_nil, ⟨fun T hT => (List.not_mem_nil hT).elim, by show (0 : Int) ≤ 0; omega, by show (0 : Int) ≤ max c 0; omega, by show max c 0 ≤ (9223372036854775807 : Int); omega⟩⟩, ?_, fun p hp => (List.not_mem_nil hp).elim⟩, he.alloc _, fun p hp => (List.not_mem_nil hp).elim, List.nodup_nil⟩
 rintro x (rfl | hx | hx)
 ·exact he.le
 ·simp [Value.ownBlock] at hx
 ·simp [mapsOf] at hx
theorem nh_table {w0 w : World} {g : Nat} {H : Hp} {L : List (Nat × List Vl)} (h : NH w0 w g H L) (hlen : H.tabs.length ≤ 1000000000000) :
  Calls Tryz.prog 18 #[.pointer (some ⟨g, 0, none⟩)] w fun e w' => e = .returned (.tuple #[(tabV H).v, .string (tabW H)]) ∧ NH w0 w' g (tabH H) L := by
 obtain ⟨tv, rs, h1, h2, h3⟩ := h.ex
 refine (table_step g tv rs H w h1 hlen).mono ?_
 rintro e w' ⟨rfl, tv', rs', hs⟩
 refine ⟨rfl, ⟨⟨tv', rs', hs.heap, fun x hx => ?_, fun p hp => hs.notin (h.own p hp).2.lt (h3 p hp)⟩, hs.touch.to_ext h.ext h2, fun p hp => ⟨(h.own p hp).1, (hs.touch.block _ (h.own p hp).2.lt (h3 p hp)).trans (h.own p hp).2⟩, h.dist⟩⟩
 rcases hs.foot x hx with hx | hx
 ·exact h2 x hx
 ·exact Nat.le_trans h.ext.le hx
theorem nh_set {w0 w : World} {g : Nat} {H : Hp} {L : List (Nat × List Vl)} (h : NH w0 w g H L) (hlen : H.tabs.length ≤ 9223372036854775807) (t k v : Vl) (hk : in64 k.n) (hv : in64 v.n) :
  Calls Tryz.prog 19 #[.pointer (some ⟨g, 0, none⟩), t.v, k.v, v.v] w fun e w' => e = .returned (.string (setW H t k v)) ∧ NH w0 w' g (setH H t k v) L := by
 obtain ⟨tv, rs, h1, h2, h3⟩ := h.ex
 refine (set_any g tv rs H t k v w h1 hlen hk hv).mono ?_
 rintro e w' ⟨rfl, hh, ht⟩
 exact ⟨rfl, ⟨⟨tv, rs, hh, h2, h3⟩, ht.to_ext h.ext h2, fun p hp => ⟨(h.own p hp).1, (ht.block _ (h.own p hp).2.lt (h3 p hp)).trans (h.own p hp).2⟩, h.dist⟩⟩
end Go.Proofs.YtfagldjhibdfhaaGreatDoor
namespace Go.Proofs.YtfagldjhibdfhaaGreatDoor
open Go.RowKit

end Go.Proofs.YtfagldjhibdfhaaGreatDoor
namespace Go.Proofs.YtfagldjhibdfhaaGreatDoor
open Go.RowKit
set_option linter.unusedVariables false
set_option linter.unusedSimpArgs false

theorem sound_int (n : Int) (h : in64 n) : Sound (iK n) := ⟨h, by show (sNone.size : Nat) ≤ _; decide⟩
theorem sound_text (s : ByteArray) (h : s.size ≤ 1048576) : Sound ⟨3, 0, s⟩ := ⟨⟨show (-9223372036854775808 : Int) ≤ 0 by decide, show (0 : Int) ≤ 9223372036854775807 by decide⟩, h⟩
theorem nh_callR {w0 w : World} {g k f : Nat} {H : Hp} {L : List (Nat × List Vl)} {l : List Vl} (r : Rs) (h : NH w0 w g H L) (hm : (k, l) ∈ L) (hL : LLaid w0) (hlen : H.tabs.length ≤ 1000000000) (hl : l.length ≤ 1048576) (name : ByteArray) (hi : libIdx name = some f) (hr : callR H name l = some r) (hs : ∀ x ∈ l, Sound x) (cap : Nat) :
  Calls Tryz.prog 15 #[.pointer (some ⟨g, 0, none⟩), .string name, .slice (some ⟨k, 0, none⟩) l.length cap] w fun e w' =>
   e = .returned (.tuple #[(if r.w = sNone then r.v else Vl.zero).v, .string r.w, .bool true]) ∧ NH w0 w' g r.H L := by
 refine (nh_call h hm (hL.ext h.ext) hlen hl name hi hs cap).mono ?_
 rintro e w' ⟨rfl, hn⟩
 have h1 : callV H name l = if r.w = sNone then r.v else Vl.zero := by unfold callV; rw [hr]
 have h2 : callW H name l = r.w := by unfold callW; rw [hr]
 have h3 : callH H name l = r.H := by unfold callH; rw [hr]
 have h4 : callB name = true := by unfold callB; rw [hi]; rfl
 rw [h3] at hn
 rw [h1, h2, h4]
 exact ⟨rfl, hn⟩
abbrev wSub : ByteArray := ⟨#[115, 117, 98]⟩
abbrev wFind : ByteArray := ⟨#[102, 105, 110, 100]⟩
abbrev wChar : ByteArray := ⟨#[99, 104, 97, 114]⟩
abbrev wNosuch : ByteArray := ⟨#[110, 111, 115, 117, 99, 104]⟩
abbrev wInsert : ByteArray := ⟨#[105, 110, 115, 101, 114, 116]⟩
abbrev wConcat : ByteArray := ⟨#[99, 111, 110, 99, 97, 116]⟩
abbrev wRep : ByteArray := ⟨#[114, 101, 112]⟩
abbrev eN : ByteArray := ⟨#[]⟩
abbrev lSub : List Vl := [⟨3, 0, ⟨#[97, 98, 99, 100, 101]⟩⟩, ⟨2, 2, eN⟩, ⟨2, -2, eN⟩]
abbrev lFind : List Vl := [⟨3, 0, ⟨#[98, 97, 110, 97, 110, 97]⟩⟩, ⟨3, 0, ⟨#[110, 97, 110]⟩⟩]
abbrev lChar : List Vl := [⟨2, 256, eN⟩]
abbrev lInsert : List Vl := [⟨4, 0, eN⟩, ⟨2, 1, eN⟩, ⟨3, 0, ⟨#[120]⟩⟩]
abbrev lConcat : List Vl := [⟨4, 0, eN⟩, ⟨3, 0, ⟨#[43]⟩⟩]
def wH0 : Hp := newH 100
def wH1 : Hp := ⟨[], 100, 1⟩
def wH2 : Hp := ⟨[[]], 100, 2⟩
def wH3 : Hp := ⟨[[(iK 1, iK 7)]], 100, 3⟩
def wH4 : Hp := ⟨[[(iK 1, ⟨3, 0, ⟨#[120]⟩⟩), (iK 2, iK 7)]], 100, 4⟩
def wH5 : Hp := ⟨[[(iK 1, ⟨3, 0, ⟨#[120]⟩⟩), (iK 2, iK 7)]], 100, 5⟩
section
variable {w0 w : World} {g k : Nat} {L : List (Nat × List Vl)}
theorem wk_sub (h : NH w0 w g wH0 L) (hm : (k, lSub) ∈ L) (hL : LLaid w0) (cap : Nat) : Calls Tryz.prog 15 #[.pointer (some ⟨g, 0, none⟩), .string wSub, .slice (some ⟨k, 0, none⟩) 3 cap] w fun e w' =>
  e = .returned (.tuple #[vv 3 0 ⟨#[98, 99, 100]⟩, .string eN, .bool true]) ∧ NH w0 w' g wH1 L :=
 nh_callR (f := 9) ⟨⟨3, 0, ⟨#[98, 99, 100]⟩⟩, eN, wH1⟩ h hm hL (by decide) (by decide) wSub (by kernel_rfl) (by kernel_rfl) (by
  intro x hx
  rcases List.mem_cons.1 hx with rfl | hx
  ·exact sound_text _ (by decide)
  rcases List.mem_cons.1 hx with rfl | hx
  ·exact sound_int 2 ⟨by decide, by decide⟩
  rcases List.mem_cons.1 hx with rfl | hx
  ·exact sound_int (-2) ⟨by decide, by decide⟩
  ·exact (List.not_mem_nil hx).elim) cap
theorem wk_find (h : NH w0 w g wH1 L) (hm : (k, lFind) ∈ L) (hL : LLaid w0) (cap : Nat) : Calls Tryz.prog 15 #[.pointer (some ⟨g, 0, none⟩), .string wFind, .slice (some ⟨k, 0, none⟩) 2 cap] w fun e w' =>
  e = .returned (.tuple #[vv 2 3 eN, .string eN, .bool true]) ∧ NH w0 w' g wH1 L :=
 nh_callR (f := 3) ⟨⟨2, 3, eN⟩, eN, wH1⟩ h hm hL (by decide) (by decide) wFind (by kernel_rfl) (by kernel_rfl) (by
  intro x hx
  rcases List.mem_cons.1 hx with rfl | hx
  ·exact sound_text _ (by decide)
  rcases List.mem_cons.1 hx with rfl | hx
  ·exact sound_text _ (by decide)
  ·exact (List.not_mem_nil hx).elim) cap
theorem wk_char (h : NH w0 w g wH1 L) (hm : (k, lChar) ∈ L) (hL : LLaid w0) (cap : Nat) : Calls Tryz.prog 15 #[.pointer (some ⟨g, 0, none⟩), .string wChar, .slice (some ⟨k, 0, none⟩) 1 cap] w fun e w' =>
  e = .returned (.tuple #[vv 0 0 eN, .string ⟨#[114, 97, 110, 103, 101]⟩, .bool true]) ∧ NH w0 w' g wH1 L :=
 nh_callR (f := 1) ⟨⟨0, 0, eN⟩, ⟨#[114, 97, 110, 103, 101]⟩, wH1⟩ h hm hL (by decide) (by decide) wChar (by kernel_rfl) (by kernel_rfl) (by
  intro x hx
  rcases List.mem_cons.1 hx with rfl | hx
  ·exact sound_int 256 ⟨by decide, by decide⟩
  ·exact (List.not_mem_nil hx).elim) cap
theorem wk_insert (h : NH w0 w g wH3 L) (hm : (k, lInsert) ∈ L) (hL : LLaid w0) (cap : Nat) : Calls Tryz.prog 15 #[.pointer (some ⟨g, 0, none⟩), .string wInsert, .slice (some ⟨k, 0, none⟩) 3 cap] w fun e w' =>
  e = .returned (.tuple #[vv 0 0 eN, .string eN, .bool true]) ∧ NH w0 w' g wH4 L :=
 nh_callR (f := 4) ⟨⟨0, 0, eN⟩, eN, wH4⟩ h hm hL (by decide) (by decide) wInsert (by kernel_rfl) (by kernel_rfl) (by
  intro x hx
  rcases List.mem_cons.1 hx with rfl | hx
  ·exact ⟨⟨by decide, by decide⟩, by decide⟩
  rcases List.mem_cons.1 hx with rfl | hx
  ·exact sound_int 1 ⟨by decide, by decide⟩
  rcases List.mem_cons.1 hx with rfl | hx
  ·exact sound_text _ (by decide)
  ·exact (List.not_mem_nil hx).elim) cap
theorem wk_concat (h : NH w0 w g wH4 L) (hm : (k, lConcat) ∈ L) (hL : LLaid w0) (cap : Nat) : Calls Tryz.prog 15 #[.pointer (some ⟨g, 0, none⟩), .string wConcat, .slice (some ⟨k, 0, none⟩) 2 cap] w fun e w' =>
  e = .returned (.tuple #[vv 3 0 ⟨#[120, 43, 55]⟩, .string eN, .bool true]) ∧ NH w0 w' g wH5 L :=
 nh_callR (f := 2) ⟨⟨3, 0, ⟨#[120, 43, 55]⟩⟩, eN, wH5⟩ h hm hL (by decide) (by decide) wConcat (by kernel_rfl) (by kernel_rfl) (by
  intro x hx
  rcases List.mem_cons.1 hx with rfl | hx
  ·exact ⟨⟨by decide, by decide⟩, by decide⟩
  rcases List.mem_cons.1 hx with rfl | hx
  ·exact sound_text _ (by decide)
  ·exact (List.not_mem_nil hx).elim) cap
theorem wk_nosuch (gv : Value) (w : World) : Calls Tryz.prog 15 #[gv, .string wNosuch, .slice none 0 0] w fun e w' => e = .returned (.tuple #[vv 0 0 eN, .string eN, .bool false]) ∧ Ext w w' :=
 call_none w gv wNosuch none 0 0 (by kernel_rfl)
theorem wk_rep (w : World) : Calls Tryz.prog 33 #[.string wRep] w fun e w' => e = .returned (.bool true) ∧ Ext w w' :=
 (has_any wRep w).mono fun e w' h => ⟨by rw [h.1, show callB wRep = true from by kernel_rfl], h.2⟩
theorem wk_table (h : NH w0 w g wH1 L) : Calls Tryz.prog 18 #[.pointer (some ⟨g, 0, none⟩)] w fun e w' => e = .returned (.tuple #[vv 4 0 eN, .string eN]) ∧ NH w0 w' g wH2 L :=
 (nh_table h (by decide)).mono fun e w' hh => ⟨by rw [hh.1, show tabV wH1 = ⟨4, 0, eN⟩ from by kernel_rfl, show tabW wH1 = eN from by kernel_rfl], by rw [← show tabH wH1 = wH2 from by kernel_rfl]; exact hh.2⟩
theorem wk_set (h : NH w0 w g wH2 L) : Calls Tryz.prog 19 #[.pointer (some ⟨g, 0, none⟩), vv 4 0 eN, vv 2 1 eN, vv 2 7 eN] w fun e w' => e = .returned (.string eN) ∧ NH w0 w' g wH3 L :=
 (nh_set h (by decide) ⟨4, 0, eN⟩ ⟨2, 1, eN⟩ ⟨2, 7, eN⟩ ⟨by decide, by decide⟩ ⟨by decide, by decide⟩).mono fun e w' hh => ⟨by rw [hh.1, show setW wH2 ⟨4, 0, eN⟩ ⟨2, 1, eN⟩ ⟨2, 7, eN⟩ = eN from by kernel_rfl], by rw [← show setH wH2 ⟨4, 0, eN⟩ ⟨2, 1, eN⟩ ⟨2, 7, eN⟩ = wH3 from by kernel_rfl]; exact hh.2⟩
end
end Go.Proofs.YtfagldjhibdfhaaGreatDoor
