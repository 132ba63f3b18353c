/- A line of numbers. The listing of a program without constants. A program that does nothing, as each law of layer 18 asks it. -/
import Derived.Test.YtfjipoijbmmjcaaGreatDoorYA2
import Derived.Test.YtfjipoijbmmjcaaGreatDoorYA1
import Derived.Test.YtfjipoijbmmjcaaGreatDoorYA4
import Derived.Deep.LoopGhost
import Derived.Laws.AppendOwn
import Derived.OwnWalk
import Derived.Test.YtfjipoijbmmjcaaGreatDoorYA6
import Derived.Lib.Join
namespace Go.Proofs.YtfjipoijbmmjcaaGreatDoor
open Go.RowKit
set_option linter.unusedVariables false
set_option linter.unusedSimpArgs false

def NumsAt (w : World) (v : Value) (l : List Int) : Prop :=
 ∃ (q : Option Addr) (c : Nat), v = .slice q l.length c ∧ (0 < l.length → ∃ b o, q = some ⟨b, o, none⟩ ∧ ∀ i (h : i < l.length), w.cell? ⟨b, o + i, none⟩ = some (.int .i64 l[i]))
theorem infoStr : (Tryz.prog.info? 9).map (fun i => (i.zero, i.size, i.bytes)) = some (some (.string ByteArray.empty), 1, 16) := by kernel_rfl
theorem one_new (w : World) (v : Value) (t : TypeId) : ∀ j u, [v][j]? = some u → (w.alloc (.cells #[v] t)).cell? ((⟨w.heap.size, 0, none⟩ : Addr).add j) = some u := by
 intro j u hu
 match j, hu with
 | 0, hu =>
  simp at hu
  subst hu
  exact (Blk.new w t #[v]).cell 0
theorem tk_snoc (pre : List ByteArray) (l : List Int) (k : Nat) (h : k < l.length) : pre ++ (l.take (k + 1)).map itS = (pre ++ (l.take k).map itS) ++ [itS l[k]] := by
 rw [List.take_succ_eq_append_getElem h, List.map_append, List.append_assoc]; rfl
def joinL (xs : List ByteArray) : List UInt8 := Lib.join (xs.map (·.data.toList)) [32]
theorem join_own (xs : List ByteArray) (v : Value) (n : Nat) (w : World) (B : Nat) (h : w.ownsRow B 9 1 v n (xs.map Value.string)) (hn : n ≤ 100000) (hJ : (joinL xs).length ≤ 140737488355328) :
  Calls Tryz.prog 32 #[v, .string ⟨#[32]⟩] w fun e w' => e = .returned (.string ⟨(joinL xs).toArray⟩) ∧ Ext w w' := by
 have h' := h
 obtain ⟨hlen, hx⟩ := h
 have hxl : xs.length = n := by simpa using hlen
 rcases hx with ⟨rfl, rfl⟩ | ⟨g, cap, cur, rfl, hB, hb, hc, hm, hs, ht⟩
 ·obtain rfl : xs = [] := List.eq_nil_of_length_eq_zero hxl
  refine (Tryz.strings_Join_none none 0 ⟨#[32]⟩ w).mono ?_
  rintro e w' ⟨rfl, rfl⟩
  exact ⟨rfl, Ext.refl _⟩
 ·subst hxl
  refine (Tryz.strings_Join g 0 cap xs ⟨#[32]⟩ w ?_ ?_ (by omega) hc hJ).mono ?_
  ·intro j x hj
   have := World.ownsRow.cells h' (g := g) rfl j (.string x) (by rw [List.getElem?_map, hj]; rfl)
   have e : ((⟨g, 0, none⟩ : Addr).add j) = ⟨g, 0 + j, none⟩ := by unfold Addr.add; split <;> simp_all
   rw [e] at this
   exact this
  ·exact (Array.getElem?_eq_some_iff.1 hb).1
  ·rintro e w' ⟨rfl, hw⟩
   exact ⟨rfl, hw⟩
def lineX (pre : List ByteArray) (l : List Int) : List ByteArray := pre ++ l.map itS
def lineS (pre : List ByteArray) (l : List Int) : ByteArray := ⟨(joinL (lineX pre l)).toArray⟩ ++ ⟨#[10]⟩
set_option maxRecDepth 100000 in
set_option maxHeartbeats 4000000 in
theorem line_none (l : List Int) (v : Value) (w : World) (ht : Pow w) (h0 : NumsAt w v l) (hl : l.length ≤ 1000) (hr : ∀ x ∈ l, i64 x) (hJ : (joinL (lineX [] l)).length ≤ 140737488355328) :
  Calls Tryz.prog 15 #[.string ⟨#[]⟩, v] w fun e w' => e = .returned (.string (lineS [] l)) ∧ Ext w w' := by
 have h := Lib.hid h0
 clear h0
 obtain ⟨pre, hpre⟩ : ∃ pre : List ByteArray, pre = [] := ⟨_, rfl⟩
 obtain ⟨m0, hm0⟩ : ∃ m0 : Nat, m0 = 0 := ⟨_, rfl⟩
 obtain ⟨xs, hxs⟩ : ∃ xs, pre ++ l.map itS = xs := ⟨_, rfl⟩
 have hX : lineX [] l = xs := by rw [← hxs, hpre]; rfl
 unfold lineS
 rw [hX] at hJ ⊢
 clear hX
 replace hxs := Lib.hid hxs
 replace hpre := Lib.hid hpre
 replace hm0 := Lib.hid hm0
 obtain ⟨i0, hi, hz0, hz1, hz2⟩ := info_parts infoStr
 obtain ⟨n, hn⟩ : ∃ n, l.length = n := ⟨_, rfl⟩
 obtain ⟨q, c, rfl, _⟩ := h.out
 rw [hn] at h hl ⊢
 have HN := Lib.hid hn
 clear hn
 go_enter Tryz.func15, Tryz.ntmps15
 go_wp2_with fail
 go_loopg [5, 16] n (fun g s5 s16 wr => ∃ (k : Nat), k + g = n ∧ s16 = .int .i64 k ∧ wr.ownsRow w.heap.size 9 1 s5 (m0 + k) ((pre ++ (l.take k).map itS).map Value.string) ∧ Ext w wr)
 case atStart => exact ⟨0, by omega, rfl, by rw [hpre.out, hm0.out]; exact World.ownsRow_nil _ _ _ _, Ext.refl _⟩
 case round =>
  obtain ⟨k, hkg, rfl, hown, he⟩ := hrel
  cases gk with
  | succ g =>
   have hkz : (k : Int) < (n : Int) := by omega
   have hkl : k < l.length := by rw [HN.out]; omega
   obtain ⟨q1, c1, hqe, hq⟩ := h.out
   cases hqe
   obtain ⟨ib, io, rfl, hc⟩ := hq (by omega)
   have ci := he.cell (hc k hkl)
   have hi1 := hr _ (List.getElem_mem hkl)
   have HT := Lib.hid (tk_snoc pre l k hkl)
   obtain ⟨x, hx⟩ : ∃ x, l[k] = x := ⟨_, rfl⟩
   rw [hx] at ci hi1 HT
   clear hx hc hq hkl
   have HO := Lib.hid hown
   have HE := Lib.hid he
   clear hown he
   go_wp2_with fail
   refine (itoa_any x _ (ht.ext HE.out) hi1.1 hi1.2).mono ?_
   rintro e w1 ⟨rfl, e1⟩
   have hown1 := own_ext HO.out e1
   have he1 := HE.out.trans e1
   clear e1
   go_wp2_with (at_builtin; refine wpList_append_own _ rfl _ _ 24 rfl w.heap.size 9 i0 (.string ByteArray.empty) 1 16 Tryz.underlying24 hi hz0 hz1 hz2 rfl (by decide) _ _ _ rfl (hown1.alloc _) ⟨w1.heap.size, 0, none⟩ 1 1 [.string (itS x)] rfl rfl ?c1 ?c2 ?c3 ?c4 ?c5 ?_)
   case c1 => exact one_new _ _ _
   case c2 => intro u hu; simp at hu; subst hu; rfl
   case c3 => have := hm0.out; unfold maxLen; omega
   case c4 => have := hm0.out; omega
   case c5 => have := he1.le; rw [size_alloc]; omega
   intro v' w2 hown' hgrow _
   have HE2 := Lib.hid (show Ext w w2 from Below.grown (he1.alloc _) hgrow (by have := he1.le; rw [size_alloc]; omega) (fun k hk => (hown1.lt k hk).1))
   have HO2 := Lib.hid (show w2.ownsRow w.heap.size 9 1 v' (m0 + (k + 1)) ((pre ++ (l.take (k + 1)).map itS).map Value.string) by
    rw [HT.out]
    simpa [Nat.add_assoc] using hown')
   clear hown' hgrow hown1 he1 ci
   go_wp2_with fail
   go_roundg g
   case rel => exact ⟨k + 1, by omega, by go_num, HO2.out, HE2.out⟩
   case measure => exact Nat.lt_succ_self _
  | zero =>
   obtain rfl : k = n := by omega
   have hkz : ¬ ((k : Int) < (k : Int)) := by omega
   have hx : pre ++ (l.take k).map itS = xs := by rw [← hxs.out, List.take_of_length_le (by rw [HN.out]; exact Nat.le_refl _)]
   rw [hx] at hown
   have hj := join_own xs _ (m0 + k) wr w.heap.size hown (by have := hm0.out; omega) hJ
   have HE := Lib.hid he
   clear hown he hx
   go_wp2_with fail
   refine hj.mono ?_
   rintro e w1 ⟨rfl, e1⟩
   have HE2 := Lib.hid (HE.out.trans e1)
   clear e1
   go_wp2_with fail
   go_ret
   exact ⟨rfl, HE2.out⟩
set_option maxRecDepth 100000 in
set_option maxHeartbeats 4000000 in
theorem line_word (word : ByteArray) (hw : word.data ≠ #[]) (l : List Int) (v : Value) (w : World) (ht : Pow w) (h0 : NumsAt w v l) (hl : l.length ≤ 1000) (hr : ∀ x ∈ l, i64 x) (hJ : (joinL (lineX [word] l)).length ≤ 140737488355328) :
  Calls Tryz.prog 15 #[.string word, v] w fun e w' => e = .returned (.string (lineS [word] l)) ∧ Ext w w' := by
 have h := Lib.hid h0
 clear h0
 obtain ⟨pre, hpre⟩ : ∃ pre : List ByteArray, pre = [word] := ⟨_, rfl⟩
 obtain ⟨m0, hm0⟩ : ∃ m0 : Nat, m0 = 1 := ⟨_, rfl⟩
 obtain ⟨xs, hxs⟩ : ∃ xs, pre ++ l.map itS = xs := ⟨_, rfl⟩
 have hX : lineX [word] l = xs := by rw [← hxs, hpre]; rfl
 unfold lineS
 rw [hX] at hJ ⊢
 clear hX
 replace hxs := Lib.hid hxs
 replace hpre := Lib.hid hpre
 replace hm0 := Lib.hid hm0
 obtain ⟨i0, hi, hz0, hz1, hz2⟩ := info_parts infoStr
 obtain ⟨n, hn⟩ : ∃ n, l.length = n := ⟨_, rfl⟩
 obtain ⟨q, c, rfl, _⟩ := h.out
 rw [hn] at h hl ⊢
 have HN := Lib.hid hn
 clear hn
 have w1' : word.toList ≠ [] := by rw [Lib.toList_data]; intro e; exact hw (by simpa using e)
 have w2' : (!word.toList.isEmpty) = true := by simpa using w1'
 have w3' : word.toList.isEmpty = false := by simpa using w1'
 go_enter Tryz.func15, Tryz.ntmps15
 go_wp2_with (at_builtin; refine wpList_append_own _ rfl _ _ 24 rfl w.heap.size 9 i0 (.string ByteArray.empty) 1 16 Tryz.underlying24 hi hz0 hz1 hz2 rfl (by decide) _ 0 [] rfl (World.ownsRow_nil _ _ _ _) ⟨w.heap.size, 0, none⟩ 1 1 [.string word] rfl rfl ?c1 ?c2 ?c3 ?c4 ?c5 ?_)
 case c1 => exact one_new _ _ _
 case c2 => intro u hu; simp at hu; subst hu; rfl
 case c3 => unfold maxLen; omega
 case c4 => omega
 case c5 => rw [size_alloc]; omega
 intro v0 w0 hown0 hgrow0 _
 have k0 : Ext w w0 := Below.grown ((Ext.refl w).alloc _) hgrow0 (by rw [size_alloc]; omega) (fun k hk => by cases hk)
 have H0 := Lib.hid (show w0.ownsRow w.heap.size 9 1 v0 (m0 + 0) ((pre ++ (l.take 0).map itS).map Value.string) by rw [hpre.out, hm0.out]; exact hown0)
 clear hown0 hgrow0 w1' w2' w3' hw
 go_wp2_with fail
 go_loopg [5, 16] n (fun g s5 s16 wr => ∃ (k : Nat), k + g = n ∧ s16 = .int .i64 k ∧ wr.ownsRow w.heap.size 9 1 s5 (m0 + k) ((pre ++ (l.take k).map itS).map Value.string) ∧ Ext w wr)
 case atStart => exact ⟨0, by omega, rfl, H0.out, k0⟩
 case round =>
  obtain ⟨k, hkg, rfl, hown, he⟩ := hrel
  cases gk with
  | succ g =>
   have hkz : (k : Int) < (n : Int) := by omega
   have hkl : k < l.length := by rw [HN.out]; omega
   obtain ⟨q1, c1, hqe, hq⟩ := h.out
   cases hqe
   obtain ⟨ib, io, rfl, hc⟩ := hq (by omega)
   have ci := he.cell (hc k hkl)
   have hi1 := hr _ (List.getElem_mem hkl)
   have HT := Lib.hid (tk_snoc pre l k hkl)
   obtain ⟨x, hx⟩ : ∃ x, l[k] = x := ⟨_, rfl⟩
   rw [hx] at ci hi1 HT
   clear hx hc hq hkl
   have HO := Lib.hid hown
   have HE := Lib.hid he
   clear hown he
   go_wp2_with fail
   refine (itoa_any x _ (ht.ext HE.out) hi1.1 hi1.2).mono ?_
   rintro e w1 ⟨rfl, e1⟩
   have hown1 := own_ext HO.out e1
   have he1 := HE.out.trans e1
   clear e1
   go_wp2_with (at_builtin; refine wpList_append_own _ rfl _ _ 24 rfl w.heap.size 9 i0 (.string ByteArray.empty) 1 16 Tryz.underlying24 hi hz0 hz1 hz2 rfl (by decide) _ _ _ rfl (hown1.alloc _) ⟨w1.heap.size, 0, none⟩ 1 1 [.string (itS x)] rfl rfl ?c1 ?c2 ?c3 ?c4 ?c5 ?_)
   case c1 => exact one_new _ _ _
   case c2 => intro u hu; simp at hu; subst hu; rfl
   case c3 => have := hm0.out; unfold maxLen; omega
   case c4 => have := hm0.out; omega
   case c5 => have := he1.le; rw [size_alloc]; omega
   intro v' w2 hown' hgrow _
   have HE2 := Lib.hid (show Ext w w2 from Below.grown (he1.alloc _) hgrow (by have := he1.le; rw [size_alloc]; omega) (fun k hk => (hown1.lt k hk).1))
   have HO2 := Lib.hid (show w2.ownsRow w.heap.size 9 1 v' (m0 + (k + 1)) ((pre ++ (l.take (k + 1)).map itS).map Value.string) by
    rw [HT.out]
    simpa [Nat.add_assoc] using hown')
   clear hown' hgrow hown1 he1 ci
   go_wp2_with fail
   go_roundg g
   case rel => exact ⟨k + 1, by omega, by go_num, HO2.out, HE2.out⟩
   case measure => exact Nat.lt_succ_self _
  | zero =>
   obtain rfl : k = n := by omega
   have hkz : ¬ ((k : Int) < (k : Int)) := by omega
   have hx : pre ++ (l.take k).map itS = xs := by rw [← hxs.out, List.take_of_length_le (by rw [HN.out]; exact Nat.le_refl _)]
   rw [hx] at hown
   have hj := join_own xs _ (m0 + k) wr w.heap.size hown (by have := hm0.out; omega) hJ
   have HE := Lib.hid he
   clear hown he hx
   go_wp2_with fail
   refine hj.mono ?_
   rintro e w1 ⟨rfl, e1⟩
   have HE2 := Lib.hid (HE.out.trans e1)
   clear e1
   go_wp2_with fail
   go_ret
   exact ⟨rfl, HE2.out⟩
end Go.Proofs.YtfjipoijbmmjcaaGreatDoor
namespace Go.Proofs.YtfjipoijbmmjcaaGreatDoor
open Go.RowKit
set_option linter.unusedVariables false
set_option linter.unusedSimpArgs false

def sFunc : ByteArray := ⟨#[102, 117, 110, 99]⟩
def insL (i : Ins) : List UInt8 := (lineS [] [i.op, i.a, i.b, i.c]).data.toList
def headL (f : Pr) : List UInt8 := (lineS [sFunc] [f.pa, f.rg]).data.toList
def protoL (f : Pr) : List UInt8 := headL f ++ f.cd.flatMap insL
def protosL (p : Pg) : List UInt8 := p.ps.flatMap protoL
theorem its_len {n : Int} (h : i64 n) : (itS n).data.toList.length ≤ 21 := by
 have := Lib.itoa_length_le n h.1 h.2
 simpa [itS] using this
theorem join_le (sep : List UInt8) : ∀ xs : List (List UInt8), (∀ x ∈ xs, x.length ≤ 21) → (Lib.join xs sep).length ≤ xs.length * (21 + sep.length)
 | [], _ => by simp [Lib.join_nil]
 | x :: xs, h => by
  rw [Lib.join_cons, List.length_append, Lib.joinTail_length]
  have h1 := h x (List.mem_cons_self ..)
  have h2 : Lib.lens xs ≤ xs.length * 21 := by
   have hx : ∀ y ∈ xs, y.length ≤ 21 := fun y hy => h y (List.mem_cons_of_mem _ hy)
   clear h h1
   induction xs with
   | nil => simp [Lib.lens]
   | cons y ys ih =>
    have := ih (fun z hz => hx z (List.mem_cons_of_mem _ hz))
    have := hx y (List.mem_cons_self ..)
    simp only [Lib.lens, List.map_cons, List.sum_cons, List.length_cons] at *
    omega
  simp only [List.length_cons]
  have e1 : (xs.length + 1) * (21 + sep.length) = xs.length * 21 + sep.length * xs.length + 21 + sep.length := by
   rw [Nat.add_mul, Nat.mul_add, Nat.mul_comm xs.length sep.length]; omega
  omega
theorem join4 {a b c d : Int} (ha : i64 a) (hb : i64 b) (hc : i64 c) (hd : i64 d) : (joinL (lineX [] [a, b, c, d])).length ≤ 100 := by
 have := join_le [32] ((lineX [] [a, b, c, d]).map (·.data.toList)) (by
  intro x hx
  simp [lineX] at hx
  rcases hx with rfl | rfl | rfl | rfl
  ·exact its_len ha
  ·exact its_len hb
  ·exact its_len hc
  ·exact its_len hd)
 simp [lineX] at this
 unfold joinL
 simp only [lineX]
 simpa using Nat.le_trans this (by omega)
theorem join2 {a b : Int} (ha : i64 a) (hb : i64 b) : (joinL (lineX [sFunc] [a, b])).length ≤ 100 := by
 have := join_le [32] ((lineX [sFunc] [a, b]).map (·.data.toList)) (by
  intro x hx
  simp [lineX] at hx
  rcases hx with rfl | rfl | rfl
  ·decide
  ·exact its_len ha
  ·exact its_len hb)
 simp [lineX] at this
 unfold joinL
 simp only [lineX]
 simpa using Nat.le_trans this (by omega)
theorem line_size (pre : List ByteArray) (l : List Int) : (lineS pre l).size = (joinL (lineX pre l)).length + 1 := by
 unfold lineS
 rw [ByteArray.size_append]
 rfl
theorem Bld.ext {T e : TypeId} {B b : Nat} {bs : List Value} {w w' : World} (h : Lib.IsBuilder T e B b bs w) (he : Ext w w') : Lib.IsBuilder T e B b bs w' := by
 have key : ∀ p, Lib.BuilderAt T e B b p bs w → Lib.BuilderAt T e B b p bs w' := by
  rintro p ⟨hB, v, hb, hown, hne⟩
  exact ⟨hB, v, (he.block b (Array.getElem?_eq_some_iff.1 hb).1).trans hb, own_ext hown he, hne⟩
 exact h.imp (key _) (key _)
theorem nums_new (w : World) (t : TypeId) (l : List Int) (g : Nat) (hg : g = w.heap.size) : NumsAt (w.alloc (.cells (l.map (Value.int .i64)).toArray t)) (.slice (some ⟨g, 0, none⟩) l.length l.length) l := by
 subst hg
 refine ⟨_, _, rfl, fun _ => ⟨_, _, rfl, fun i hi => ?_⟩⟩
 rw [(Blk.new w t _).cell]
 simp [hi]
theorem fm_snoc {α : Type} (f : α → List UInt8) (l : List α) (k : Nat) (h : k < l.length) : (l.take (k + 1)).flatMap f = (l.take k).flatMap f ++ f l[k] := by
 rw [List.take_succ_eq_append_getElem h, List.flatMap_append]; simp
theorem fm_le {α : Type} (f : α → List UInt8) (m : Nat) (l : List α) (h : ∀ x ∈ l, (f x).length ≤ m) : (l.flatMap f).length ≤ l.length * m := by
 induction l with
 | nil => simp
 | cons x l ih =>
  have := ih (fun y hy => h y (List.mem_cons_of_mem _ hy))
  have := h x (List.mem_cons_self ..)
  simp only [List.flatMap_cons, List.length_append, List.length_cons, Nat.add_mul]
  omega
theorem ins_len {i : Ins} (h : InsW i) : (insL i).length ≤ 101 := by
 have := join4 h.op h.a h.b h.c
 have e := line_size [] [i.op, i.a, i.b, i.c]
 have : (insL i).length = (lineS [] [i.op, i.a, i.b, i.c]).size := rfl
 omega
theorem head_len {f : Pr} (h : PrW f) : (headL f).length ≤ 101 := by
 have := join2 h.pa h.rg
 have e := line_size [sFunc] [f.pa, f.rg]
 have : (headL f).length = (lineS [sFunc] [f.pa, f.rg]).size := rfl
 omega
end Go.Proofs.YtfjipoijbmmjcaaGreatDoor
namespace Go.Proofs.YtfjipoijbmmjcaaGreatDoor
open Go.RowKit
set_option linter.unusedVariables false
set_option linter.unusedSimpArgs false

def pEnd : Pg := ⟨[⟨0, 0, [⟨35, 0, 0, 0⟩]⟩], 0, []⟩
def sEnd : ByteArray := ⟨#[102, 117, 110, 99, 32, 48, 32, 48, 10, 51, 53, 32, 48, 32, 48, 32, 48, 10]⟩
theorem dig0 : Lib.itoa 0 = [48] := by simp [Lib.itoa, Lib.decDigits]
theorem dig35 : Lib.itoa 35 = [51, 53] := by simp [Lib.itoa, Lib.decDigits]
theorem end_text : (⟨(protosL pEnd).toArray⟩ : ByteArray) = sEnd := by
 simp [protosL, protoL, headL, insL, pEnd, lineS, lineX, joinL, itS, dig0, dig35, sFunc, sEnd, Lib.join_cons, Lib.joinTail]
theorem end_chk : chkP pEnd = true := by decide +kernel
theorem nil_chk : chkP ⟨[], 0, []⟩ = false := by decide +kernel
theorem end_wide : ∀ f ∈ pEnd.ps, PrW f := by
 intro f hf
 simp [pEnd] at hf
 subst hf
 refine ⟨by simp [i64], by simp [i64], fun i hi => ?_⟩
 simp at hi
 subst hi
 constructor <;> (unfold i64; simp)
theorem nil_lies (w : World) : Lies w (.slice none 0 0) (.slice none 0 0) (.slice none 0 0) ⟨[], 0, []⟩ :=
 ⟨⟨none, 0, rfl, fun h => by cases h⟩, ⟨none, 0, rfl⟩, ⟨none, 0, rfl, fun h => by cases h⟩⟩
theorem end_lies (w : World) : Lies (((w.alloc (.cells #[.int .i64 35, .int .i64 0, .int .i64 0, .int .i64 0] 42)).alloc (.cells #[.int .i64 0, .int .i64 0, .slice (some ⟨w.heap.size, 0, none⟩) 1 1] 39)))
  (.slice (some ⟨w.heap.size + 1, 0, none⟩) 1 1) (.slice none 0 0) (.slice none 0 0) pEnd := by
 have hb : Blk ((w.alloc (.cells #[.int .i64 35, .int .i64 0, .int .i64 0, .int .i64 0] 42)).alloc (.cells #[.int .i64 0, .int .i64 0, .slice (some ⟨w.heap.size, 0, none⟩) 1 1] 39)) (w.heap.size + 1) 39 #[.int .i64 0, .int .i64 0, .slice (some ⟨w.heap.size, 0, none⟩) 1 1] := new_at (size_alloc _ _).symm _
 have hc : Blk ((w.alloc (.cells #[.int .i64 35, .int .i64 0, .int .i64 0, .int .i64 0] 42)).alloc (.cells #[.int .i64 0, .int .i64 0, .slice (some ⟨w.heap.size, 0, none⟩) 1 1] 39)) w.heap.size 42 #[.int .i64 35, .int .i64 0, .int .i64 0, .int .i64 0] := (Blk.new w _ _).alloc _
 refine ⟨⟨_, _, rfl, fun _ => ⟨_, _, rfl, fun i hi => ?_⟩⟩, ⟨none, 0, rfl⟩, ⟨none, 0, rfl, fun h => by cases h⟩⟩
 have : i = 0 := by simp [pEnd] at hi; exact hi
 subst this
 refine ⟨hb.cell 0, hb.cell 1, _, hb.cell 2, ⟨_, _, rfl, fun _ => ⟨_, _, rfl, fun j hj => ?_⟩⟩⟩
 have : j = 0 := by simp [pEnd] at hj; exact hj
 subst this
 exact ⟨hc.cell 0, hc.cell 1, hc.cell 2, hc.cell 3⟩
end Go.Proofs.YtfjipoijbmmjcaaGreatDoor
