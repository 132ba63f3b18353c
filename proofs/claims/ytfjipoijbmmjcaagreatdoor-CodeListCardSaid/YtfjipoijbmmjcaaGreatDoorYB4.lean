/- A program of the call's own, as it grows. A line's pieces, in plain words. -/
import Derived.Test.YtfjipoijbmmjcaaGreatDoorYB3
import Derived.Maps.AppendAt
import Derived.Laws.OwnMore
import Derived.RangeFuncWrites
import Derived.RangeFuncOwn
import Derived.Lib.Split
import Derived.Lib.SplitLaws
import Derived.Lib.CountLaws
import Derived.Lib.IndexBytes
namespace Go.Proofs.YtfjipoijbmmjcaaGreatDoor
open Go.RowKit
set_option linter.unusedVariables false
set_option linter.unusedSimpArgs false

section
variable {w w' : World} {B B' g k n m s s' : Nat} {e e' t : TypeId} {u v : Value} {xs ys : List Value} {cs : Array Value}
theorem row_ne (h : w.ownsRow B e s v n xs) (hu : w.ownsRow B' e' s' u m ys) (he : e ≠ e') : v.ownBlock = none ∨ v.ownBlock ≠ u.ownBlock := by
 rcases h.2 with ⟨rfl, _⟩ | ⟨g1, c1, cur1, rfl, _, h1, _⟩
 ·exact .inl rfl
 ·rcases hu.2 with ⟨rfl, _⟩ | ⟨g2, c2, cur2, rfl, _, h2, _⟩
  ·exact .inr (by simp [Value.ownBlock])
  ·refine .inr fun hx => ?_
   have hx' : g1 = g2 := by simpa [Value.ownBlock] using hx
   subst hx'
   rw [h1] at h2
   have e2 : e = e' := by injection h2 with h2; injection h2
   exact he e2
theorem row_blk (h : w.ownsRow B e s v n xs) (hb : Blk w k t cs) (he : e ≠ t) : v.ownBlock ≠ some k := by
 rcases h.2 with ⟨rfl, _⟩ | ⟨g1, c1, cur1, rfl, _, h1, _⟩
 ·simp [Value.ownBlock]
 ·intro hx
  have hx' : g1 = k := by simpa [Value.ownBlock] using hx
  subst hx'
  unfold Blk at hb
  rw [h1] at hb
  have e2 : e = t := by injection hb with hb; injection hb
  exact he e2
theorem row_oth (h : w.ownsRow B e s v n xs) (hg : w.grownBy w' v.ownBlock) : KeepsOthers w w' := .of_grownBy hg (fun j o hj ho => by
 rcases h.2 with ⟨rfl, _⟩ | ⟨g1, c1, cur1, rfl, _, h1, _⟩
 ·simp [Value.ownBlock] at hj
 ·have hx : g1 = j := by simpa [Value.ownBlock] using hj
  subst hx
  rw [h1] at ho
  injection ho with ho
  rw [← ho]; rfl)
theorem oth_ext (h : Ext w w') : KeepsOthers w w' := ⟨h.size, fun i o hi _ => (h.block i (Array.getElem?_eq_some_iff.1 hi).1).trans hi⟩
theorem blk_same {t' : TypeId} {cs' : Array Value} (h : Blk w k t cs) (h' : Blk w k t' cs') : t = t' := by
 unfold Blk at h h'
 rw [h] at h'
 injection h' with h'
 injection h'
theorem grown_set (w : World) (p : Addr) (u : Value) : w.grownBy (w.setCell p u) (some p.block) :=
 ⟨rfl, rfl, rfl, by simp, fun k _ hk => heap_setCell_other w p k u (fun e => hk (by simp [e]))⟩
theorem row_put (h : w.ownsRow B e s v n xs) (hb : Blk w k t cs) (he : e ≠ t) (i : Nat) (u : Value) : (w.setCell ⟨k, i, none⟩ u).ownsRow B e s v n xs :=
 h.kept (grown_set w ⟨k, i, none⟩ u) (.inr (row_blk h hb he))
theorem row_grown (h : w.ownsRow B e s v n xs) (hu : w.ownsRow B' e' s' u m ys) (he : e ≠ e') (hg : w.grownBy w' u.ownBlock) : w'.ownsRow B e s v n xs := h.kept hg (row_ne h hu he)
theorem blk_grown (hb : Blk w k t cs) (hu : w.ownsRow B' e' s' u m ys) (he : e' ≠ t) (hg : w.grownBy w' u.ownBlock) : Blk w' k t cs :=
 (hg.block k hb.lt (fun hx => row_blk hu hb he hx.symm)).trans hb
end
def KT (w w' : World) : Prop := ∀ k t cs, Blk w k t cs → t ≠ 26 → t ≠ 39 → t ≠ 42 → t ≠ 2 → t ≠ 9 → Blk w' k t cs
structure Turn (B g : Nat) (w w' : World) : Prop where
 os : w'.os = w.os
 tape : w'.tape = w.tape
 output : w'.output = w.output
 size : w.heap.size ≤ w'.heap.size
 low : ∀ k, k < w.heap.size → k < B → k ≠ g → w'.heap[k]? = w.heap[k]?
 keep : KT w w'
 oth : KeepsOthers w w'
section
variable {w w1 w2 w' : World} {B g : Nat}
theorem Turn.refl (w : World) : Turn B g w w := ⟨rfl, rfl, rfl, Nat.le_refl _, fun _ _ _ _ => rfl, fun _ _ _ h _ _ _ _ _ => h, .refl w⟩
theorem Turn.trans (a : Turn B g w w1) (b : Turn B g w1 w2) : Turn B g w w2 :=
  ⟨b.os.trans a.os, b.tape.trans a.tape, b.output.trans a.output, Nat.le_trans a.size b.size, fun k h1 h2 h3 => (b.low k (Nat.lt_of_lt_of_le h1 a.size) h2 h3).trans (a.low k h1 h2 h3),
   fun k t cs h n1 n2 n3 n4 n5 => b.keep k t cs (a.keep k t cs h n1 n2 n3 n4 n5) n1 n2 n3 n4 n5, a.oth.trans b.oth⟩
theorem Turn.of_ext (h : Ext w w') : Turn B g w w' := ⟨h.os, h.tape, h.output, h.size, fun k hk _ _ => h.block k hk, fun k t cs hb _ _ _ _ _ => hb.ext h, oth_ext h⟩
theorem Turn.ext {w0 : World} (h : Turn B g w w') (h0 : Ext w0 w) (hB : w0.heap.size ≤ B) (hg : w0.heap.size ≤ g) : Ext w0 w' :=
 ⟨h.os.trans h0.os, h.tape.trans h0.tape, h.output.trans h0.output, Nat.le_trans h0.size h.size, fun k hk => (h.low k (Nat.lt_of_lt_of_le hk h0.size) (by omega) (by omega)).trans (h0.block k hk)⟩
end
def insC (i : Ins) : List Value := [.int .i64 i.op, .int .i64 i.a, .int .i64 i.b, .int .i64 i.c]
def prC (c : Pr × Value) : List Value := [.int .i64 c.1.pa, .int .i64 c.1.rg, c.2]
structure OwnPg (w : World) (B g : Nat) (cs : List (Pr × Value)) (is : List Int) (ts : List ByteArray) (vp vi vt : Value) : Prop where
 blk : Blk w g 26 #[vp, vi, vt]
 ps : w.ownsRow B 39 3 vp cs.length (cs.flatMap prC)
 is : w.ownsRow B 2 1 vi is.length (is.map (Value.int .i64))
 ts : w.ownsRow B 9 1 vt ts.length (ts.map Value.string)
 cd : ∀ c ∈ cs, w.ownsRow B 42 4 c.2 c.1.cd.length (c.1.cd.flatMap insC)
 dis : cs.Pairwise fun c d => ∀ x, c.2.ownBlock = some x → d.2.ownBlock ≠ some x
section
variable {w w' : World} {B g : Nat} {cs : List (Pr × Value)} {is : List Int} {ts : List ByteArray} {vp vi vt : Value}
theorem OwnPg.ext (h : OwnPg w B g cs is ts vp vi vt) (he : Ext w w') : OwnPg w' B g cs is ts vp vi vt :=
 ⟨h.blk.ext he, own_ext h.ps he, own_ext h.is he, own_ext h.ts he, fun c hc => own_ext (h.cd c hc) he, h.dis⟩
theorem pinfo : (Tryz.prog.info? 39).map (fun i => (i.zero, i.size, i.bytes)) = some (some (.agg #[.int .i64 0, .int .i64 0, .slice none 0 0]), 3, 40) := by kernel_rfl
theorem iinfo : (Tryz.prog.info? 42).map (fun i => (i.zero, i.size, i.bytes)) = some (some (.agg #[.int .i64 0, .int .i64 0, .int .i64 0, .int .i64 0]), 4, 32) := by kernel_rfl
theorem ninfo : (Tryz.prog.info? 2).map (fun i => (i.zero, i.size, i.bytes)) = some (some (.int .i64 0), 1, 8) := by kernel_rfl
theorem add_off (b o j : Nat) : (⟨b, o, none⟩ : Addr).add j = ⟨b, o + j, none⟩ := by unfold Addr.add; split <;> simp_all
theorem OwnPg.proto (h : OwnPg w B g cs is ts vp vi vt) (k : Nat) (a b : Int) (hk : Blk w k 39 #[.int .i64 a, .int .i64 b, .slice none 0 0]) (ty : TypeId) (hB : B ≤ w.heap.size) (hn : cs.length ≤ 1000000) :
  ∃ v' w', AppRuns Tryz.prog 22 ty vp (.slice (some ⟨k, 0, none⟩) 1 1) w v' w' ∧ OwnPg (w'.setCell ⟨g, 0, none⟩ v') B g (cs ++ [(⟨a, b, []⟩, .slice none 0 0)]) is ts v' vi vt ∧ Turn B g w (w'.setCell ⟨g, 0, none⟩ v') ∧ w.grownBy w' vp.ownBlock ∧ Blk w' g 26 #[vp, vi, vt] := by
 obtain ⟨i0, hi, hz0, hz1, hz2⟩ := info_parts pinfo
 obtain ⟨v', w', h1, h2, h3, h4, h5⟩ := run_append_own_at (P := Tryz.prog) (w := w) B 22 ty 39 i0 (.agg #[.int .i64 0, .int .i64 0, .slice none 0 0]) 3 40 Tryz.underlying22 hi hz0 hz1 hz2 rfl (by omega) vp cs.length (cs.flatMap prC) h.ps ⟨k, 0, none⟩ 1 1
  [.int .i64 a, .int .i64 b, .slice none 0 0] rfl (fun j u hu => by rw [add_off, Nat.zero_add, hk.cell]; simpa using hu) (by intro u hu; simp at hu; rcases hu with rfl | rfl | rfl <;> rfl) (by unfold maxLen; omega) (by omega) hB
 have hg := blk_grown h.blk h.ps (by decide) h3
 refine ⟨v', w', ⟨h1⟩, ⟨?_, ?_, ?_, ?_, ?_, ?_⟩, ?_, h3, hg⟩
 ·have := hg.set_ 0 v'
  simpa using this
 ·have e : (cs ++ [((⟨a, b, []⟩ : Pr), Value.slice none 0 0)]).flatMap prC = cs.flatMap prC ++ [.int .i64 a, .int .i64 b, .slice none 0 0] := by simp [prC]
  rw [e, List.length_append]
  exact row_put h2 hg (by decide) 0 v'
 ·exact row_put (row_grown h.is h.ps (by decide) h3) hg (by decide) 0 v'
 ·exact row_put (row_grown h.ts h.ps (by decide) h3) hg (by decide) 0 v'
 ·intro c hc
  rcases List.mem_append.1 hc with hc | hc
  ·exact row_put (row_grown (h.cd c hc) h.ps (by decide) h3) hg (by decide) 0 v'
  ·rw [List.mem_singleton] at hc
   subst hc
   exact World.ownsRow_nil _ _ _ _
 ·rw [List.pairwise_append]
  refine ⟨h.dis, List.pairwise_singleton _ _, fun c _ d hd x hx => ?_⟩
  rw [List.mem_singleton] at hd
  subst hd
  simp [Value.ownBlock]
 ·have hrow := fun x hx => (h.ps.lt x hx).1
  refine ⟨h3.os, h3.tape, h3.output, by rw [World.size_setCell]; exact h3.size, fun k hk hkB hkg => ?_, fun k t cs hb n1 n2 n3 n4 n5 => ?_, (row_oth h.ps h3).trans (.setCell _ _ _)⟩
  ·exact (heap_setCell_other w' ⟨g, 0, none⟩ k v' hkg).trans (h3.block k hk (fun hx => by have := hrow k hx.symm; omega))
  ·exact (blk_grown hb h.ps (fun e => n2 e.symm) h3).far (p := ⟨g, 0, none⟩) (fun e => by
    subst e
    exact n1 (blk_same hb h.blk)) v'
theorem OwnPg.int (h : OwnPg w B g cs is ts vp vi vt) (k : Nat) (x : Int) (hk : Blk w k 2 #[.int .i64 x]) (ty : TypeId) (hB : B ≤ w.heap.size) (hn : is.length ≤ 1000000) :
  ∃ v' w', AppRuns Tryz.prog 23 ty vi (.slice (some ⟨k, 0, none⟩) 1 1) w v' w' ∧ OwnPg (w'.setCell ⟨g, 1, none⟩ v') B g cs (is ++ [x]) ts vp v' vt ∧ Turn B g w (w'.setCell ⟨g, 1, none⟩ v') ∧ w.grownBy w' vi.ownBlock ∧ Blk w' g 26 #[vp, vi, vt] := by
 obtain ⟨i0, hi, hz0, hz1, hz2⟩ := info_parts ninfo
 obtain ⟨v', w', h1, h2, h3, h4, h5⟩ := run_append_own_at (P := Tryz.prog) (w := w) B 23 ty 2 i0 (.int .i64 0) 1 8 Tryz.underlying23 hi hz0 hz1 hz2 rfl (by omega) vi is.length (is.map (Value.int .i64)) h.is ⟨k, 0, none⟩ 1 1
  [.int .i64 x] rfl (fun j u hu => by rw [add_off, Nat.zero_add, hk.cell]; simpa using hu) (by intro u hu; simp at hu; subst hu; rfl) (by unfold maxLen; omega) (by omega) hB
 have hg := blk_grown h.blk h.is (by decide) h3
 refine ⟨v', w', ⟨h1⟩, ⟨?_, ?_, ?_, ?_, ?_, h.dis⟩, ?_, h3, hg⟩
 ·have := hg.set_ 1 v'
  simpa using this
 ·exact row_put (row_grown h.ps h.is (by decide) h3) hg (by decide) 1 v'
 ·have e : (is ++ [x]).map (Value.int .i64) = (is).map (Value.int .i64) ++ [.int .i64 x] := by simp
  rw [e, List.length_append]
  exact row_put h2 hg (by decide) 1 v'
 ·exact row_put (row_grown h.ts h.is (by decide) h3) hg (by decide) 1 v'
 ·intro c hc
  exact row_put (row_grown (h.cd c hc) h.is (by decide) h3) hg (by decide) 1 v'
 ·have hrow := fun x hx => (h.is.lt x hx).1
  refine ⟨h3.os, h3.tape, h3.output, by rw [World.size_setCell]; exact h3.size, fun k hk hkB hkg => ?_, fun k t cs hb n1 n2 n3 n4 n5 => ?_, (row_oth h.is h3).trans (.setCell _ _ _)⟩
  ·exact (heap_setCell_other w' ⟨g, 1, none⟩ k v' hkg).trans (h3.block k hk (fun hx => by have := hrow k hx.symm; omega))
  ·exact (blk_grown hb h.is (fun e => n4 e.symm) h3).far (p := ⟨g, 1, none⟩) (fun e => by
    subst e
    exact n1 (blk_same hb h.blk)) v'
theorem OwnPg.text (h : OwnPg w B g cs is ts vp vi vt) (k : Nat) (x : ByteArray) (hk : Blk w k 9 #[.string x]) (ty : TypeId) (hB : B ≤ w.heap.size) (hn : ts.length ≤ 1000000) :
  ∃ v' w', AppRuns Tryz.prog 24 ty vt (.slice (some ⟨k, 0, none⟩) 1 1) w v' w' ∧ OwnPg (w'.setCell ⟨g, 2, none⟩ v') B g cs is (ts ++ [x]) vp vi v' ∧ Turn B g w (w'.setCell ⟨g, 2, none⟩ v') ∧ w.grownBy w' vt.ownBlock ∧ Blk w' g 26 #[vp, vi, vt] := by
 obtain ⟨i0, hi, hz0, hz1, hz2⟩ := info_parts infoStr
 obtain ⟨v', w', h1, h2, h3, h4, h5⟩ := run_append_own_at (P := Tryz.prog) (w := w) B 24 ty 9 i0 (.string ByteArray.empty) 1 16 Tryz.underlying24 hi hz0 hz1 hz2 rfl (by omega) vt ts.length (ts.map Value.string) h.ts ⟨k, 0, none⟩ 1 1
  [.string x] rfl (fun j u hu => by rw [add_off, Nat.zero_add, hk.cell]; simpa using hu) (by intro u hu; simp at hu; subst hu; rfl) (by unfold maxLen; omega) (by omega) hB
 have hg := blk_grown h.blk h.ts (by decide) h3
 refine ⟨v', w', ⟨h1⟩, ⟨?_, ?_, ?_, ?_, ?_, h.dis⟩, ?_, h3, hg⟩
 ·have := hg.set_ 2 v'
  simpa using this
 ·exact row_put (row_grown h.ps h.ts (by decide) h3) hg (by decide) 2 v'
 ·exact row_put (row_grown h.is h.ts (by decide) h3) hg (by decide) 2 v'
 ·have e : (ts ++ [x]).map Value.string = (ts).map Value.string ++ [.string x] := by simp
  rw [e, List.length_append]
  exact row_put h2 hg (by decide) 2 v'
 ·intro c hc
  exact row_put (row_grown (h.cd c hc) h.ts (by decide) h3) hg (by decide) 2 v'
 ·have hrow := fun x hx => (h.ts.lt x hx).1
  refine ⟨h3.os, h3.tape, h3.output, by rw [World.size_setCell]; exact h3.size, fun k hk hkB hkg => ?_, fun k t cs hb n1 n2 n3 n4 n5 => ?_, (row_oth h.ts h3).trans (.setCell _ _ _)⟩
  ·exact (heap_setCell_other w' ⟨g, 2, none⟩ k v' hkg).trans (h3.block k hk (fun hx => by have := hrow k hx.symm; omega))
  ·exact (blk_grown hb h.ts (fun e => n5 e.symm) h3).far (p := ⟨g, 2, none⟩) (fun e => by
    subst e
    exact n1 (blk_same hb h.blk)) v'
theorem prC_len (l : List (Pr × Value)) : (l.flatMap prC).length = l.length * 3 := by
 induction l with
 | nil => rfl
 | cons c l ih => simp only [List.flatMap_cons, List.length_append, List.length_cons, ih]; simp [prC]; omega
theorem set_last (l : List (Pr × Value)) (f f' : Pr) (cv v' : Value) (h1 : f'.pa = f.pa) (h2 : f'.rg = f.rg) : ((l ++ [(f, cv)]).flatMap prC).set (l.length * 3 + 2) v' = (l ++ [(f', v')]).flatMap prC := by
 rw [List.flatMap_append, List.flatMap_append, List.set_append_right _ _ (by rw [prC_len]; omega), prC_len]
 congr 1
 have : l.length * 3 + 2 - l.length * 3 = 2 := by omega
 rw [this]
 simp [prC, h1, h2]
theorem OwnPg.ins {cs0 : List (Pr × Value)} {f : Pr} {cv : Value} {gp n cap : Nat} (h : OwnPg w B g (cs0 ++ [(f, cv)]) is ts (.slice (some ⟨gp, 0, none⟩) n cap) vi vt) (k : Nat) (i : Ins) (hk : Blk w k 42 #[.int .i64 i.op, .int .i64 i.a, .int .i64 i.b, .int .i64 i.c]) (ty : TypeId) (hB : B ≤ w.heap.size) (hn : f.cd.length ≤ 1000000) :
  ∃ v' w', AppRuns Tryz.prog 37 ty cv (.slice (some ⟨k, 0, none⟩) 1 1) w v' w' ∧ OwnPg (w'.setCell ⟨gp, cs0.length * 3 + 2, none⟩ v') B g (cs0 ++ [(⟨f.pa, f.rg, f.cd ++ [i]⟩, v')]) is ts (.slice (some ⟨gp, 0, none⟩) n cap) vi vt ∧ Turn B g w (w'.setCell ⟨gp, cs0.length * 3 + 2, none⟩ v') ∧ w.grownBy w' cv.ownBlock ∧ (∃ cur, Blk w' gp 39 cur) ∧ w'.cell? ⟨gp, cs0.length * 3 + 2, none⟩ = some cv := by
 obtain ⟨i0, hi, hz0, hz1, hz2⟩ := info_parts iinfo
 have hcv := h.cd (f, cv) (by simp)
 simp only at hcv
 obtain ⟨v', w', h1, h2, h3, h4, h5⟩ := run_append_own_at (P := Tryz.prog) (w := w) B 37 ty 42 i0 (.agg #[.int .i64 0, .int .i64 0, .int .i64 0, .int .i64 0]) 4 32 Tryz.underlying37 hi hz0 hz1 hz2 rfl (by omega) cv f.cd.length (f.cd.flatMap insC) hcv ⟨k, 0, none⟩ 1 1
  (insC i) rfl (fun j u hu => by rw [add_off, Nat.zero_add, hk.cell]; simpa [insC] using hu) (by intro u hu; simp [insC] at hu; rcases hu with rfl | rfl | rfl | rfl <;> rfl) (by unfold maxLen; omega) (by omega) hB
 have hn' : n = cs0.length + 1 := by
  rcases h.ps.2 with ⟨e, _⟩ | ⟨g1, c1, cur1, e, _⟩
  ·cases e
  ·simp only [Value.slice.injEq] at e
   rw [e.2.1]
   simp
 obtain ⟨cur, hgp⟩ : ∃ cur, Blk w gp 39 cur := by
  rcases h.ps.2 with ⟨e, _⟩ | ⟨g1, c1, cur1, e, _, hh, _⟩
  ·cases e
  ·simp only [Value.slice.injEq, Option.some.injEq, Addr.mk.injEq] at e
   obtain ⟨⟨rfl, _⟩, _⟩ := e
   exact ⟨cur1, hh⟩
 have hgp' := blk_grown hgp hcv (by decide) h3
 have hps := row_grown h.ps hcv (by decide) h3
 have hg' := blk_grown h.blk hcv (by decide) h3
 have hlen : (cs0 ++ [(f, cv)]).length = cs0.length + 1 := by simp
 have hst : (w'.setCell ⟨gp, cs0.length * 3 + 2, none⟩ v').ownsRow B 39 3 (.slice (some ⟨gp, 0, none⟩) n cap) n (((cs0 ++ [(f, cv)]).flatMap prC).set (cs0.length * 3 + 2) v') := by
  rw [hlen, ← hn'] at hps
  exact (hps.stored (cs0.length * 3 + 2) v').1
 have hcell : w'.cell? ⟨gp, cs0.length * 3 + 2, none⟩ = some cv := by
  rw [hlen, ← hn'] at hps
  rw [hps.cellAt (cs0.length * 3 + 2) (by omega), List.flatMap_append, List.getElem?_append_right (by rw [prC_len]; omega), prC_len]
  have : cs0.length * 3 + 2 - cs0.length * 3 = 2 := by omega
  rw [this]
  rfl
 have hgB : B ≤ gp := (h.ps.lt gp rfl).1
 have hdis := h.dis
 rw [List.pairwise_append] at hdis
 refine ⟨v', w', ⟨h1⟩, ⟨?_, ?_, ?_, ?_, ?_, ?_⟩, ?_, h3, ⟨cur, hgp'⟩, hcell⟩
 ·exact hg'.far (p := ⟨gp, cs0.length * 3 + 2, none⟩) (fun e => by
   subst e
   exact absurd (blk_same hg' hgp') (by decide)) v'
 ·have hlen2 : (cs0 ++ [((⟨f.pa, f.rg, f.cd ++ [i]⟩ : Pr), v')]).length = n := by rw [hn']; simp
  rw [hlen2, ← set_last cs0 f ⟨f.pa, f.rg, f.cd ++ [i]⟩ cv v' rfl rfl]
  exact hst
 ·exact row_put (row_grown h.is hcv (by decide) h3) hgp' (by decide) _ v'
 ·exact row_put (row_grown h.ts hcv (by decide) h3) hgp' (by decide) _ v'
 ·intro c hc
  rcases List.mem_append.1 hc with hc | hc
  ·have hck := h.cd c (List.mem_append_left _ hc)
   refine row_put (hck.kept h3 ?_) hgp' (by decide) _ v'
   cases hx : c.2.ownBlock with
   | none => exact .inl rfl
   | some x => exact .inr (fun e => hdis.2.2 c hc (f, cv) (by simp) x hx e.symm)
  ·rw [List.mem_singleton] at hc
   subst hc
   have e : (f.cd ++ [i]).flatMap insC = f.cd.flatMap insC ++ insC i := by simp
   simp only
   rw [e, List.length_append]
   exact row_put h2 hgp' (by decide) _ v'
 ·rw [List.pairwise_append]
  refine ⟨hdis.1, List.pairwise_singleton _ _, fun c hc d hd x hx => ?_⟩
  rw [List.mem_singleton] at hd
  subst hd
  simp only
  rcases h5 with h5 | h5
  ·rw [h5]; exact hdis.2.2 c hc (f, cv) (by simp) x hx
  ·rw [h5]
   intro e
   have := ((h.cd c (List.mem_append_left _ hc)).lt x hx).2
   have := Option.some.inj e
   omega
 ·have hrow := fun x hx => (hcv.lt x hx).1
  refine ⟨h3.os, h3.tape, h3.output, by rw [World.size_setCell]; exact h3.size, fun k hk hkB hkg => ?_, fun k t cs hb n1 n2 n3 n4 n5 => ?_, (row_oth hcv h3).trans (.setCell _ _ _)⟩
  ·exact (heap_setCell_other w' ⟨gp, cs0.length * 3 + 2, none⟩ k v' (by show k ≠ gp; omega)).trans (h3.block k hk (fun hx => by have := hrow k hx.symm; omega))
  ·exact (blk_grown hb hcv (fun e => n3 e.symm) h3).far (p := ⟨gp, cs0.length * 3 + 2, none⟩) (fun e => by
    subst e
    exact n2 (blk_same hb hgp)) v'
end
end Go.Proofs.YtfjipoijbmmjcaaGreatDoor
namespace Go.Proofs.YtfjipoijbmmjcaaGreatDoor
open Go.RowKit
set_option linter.unusedVariables false
set_option linter.unusedSimpArgs false

def ba (l : List UInt8) : ByteArray := ⟨l.toArray⟩
theorem ba_list (l : List UInt8) : (ba l).data.toList = l := by simp [ba]
theorem ba_of (s : ByteArray) : ba s.data.toList = s := by apply ByteArray.ext; simp [ba]
def spB : ByteArray := ⟨#[32]⟩
def pieces (s : ByteArray) : List ByteArray := Lib.splitB spB 0 (Lib.countB s spB) s
theorem pieces_len (s : ByteArray) : (pieces s).length = Lib.countB s spB + 1 := Lib.splitB_all spB (by decide) 0 _ s rfl
theorem extract_size_le (s : ByteArray) (a b : Nat) : (s.extract a b).size ≤ s.size := by
 rw [ByteArray.size_extract]; omega
theorem split_le : ∀ (k : Nat) (s : ByteArray), ∀ x ∈ Lib.splitB spB 0 k s, x.size ≤ s.size
 | 0, s, x, hx => by
  rw [Lib.splitB_zero, List.mem_singleton] at hx
  rw [hx]; exact Nat.le_refl _
 | k + 1, s, x, hx => by
  unfold Lib.splitB at hx
  split at hx
  ·rw [List.mem_singleton] at hx
   rw [hx]; exact Nat.le_refl _
  ·rcases List.mem_cons.1 hx with rfl | hx
   ·exact extract_size_le _ _ _
   ·exact Nat.le_trans (split_le k _ x hx) (extract_size_le _ _ _)
theorem pieces_le (s : ByteArray) : ∀ x ∈ pieces s, x.size ≤ s.size := split_le _ s
theorem ib_no {l : List UInt8} (h : (32 : UInt8) ∉ l) : Lib.indexByte l 32 = -1 := by
 induction l with
 | nil => rfl
 | cons b l ih =>
  have h1 : (b == 32) = false := by
   rw [beq_eq_false_iff_ne]
   intro e; exact h (by simp [e])
  unfold Lib.indexByte
  rw [h1, ih (fun h2 => h (List.mem_cons_of_mem _ h2))]
  rfl
theorem ib_at {l r : List UInt8} (h : (32 : UInt8) ∉ l) : Lib.indexByte (l ++ 32 :: r) 32 = (l.length : Int) := by
 induction l with
 | nil => rfl
 | cons b l ih =>
  have h1 : (b == 32) = false := by
   rw [beq_eq_false_iff_ne]
   intro e; exact h (by simp [e])
  rw [List.cons_append]
  unfold Lib.indexByte
  rw [h1, ih (fun h2 => h (List.mem_cons_of_mem _ h2))]
  have h2 : ((l.length : Int) == -1) = false := by rw [beq_eq_false_iff_ne]; omega
  rw [h2]
  simp
theorem idx_no {l : List UInt8} (h : (32 : UInt8) ∉ l) : Lib.indexB (ba l) spB = -1 := by
 show Lib.index (ba l).data.toList spB.data.toList = -1
 rw [ba_list, show spB.data.toList = [32] from rfl, Lib.index_one, ib_no h]
theorem idx_at {l r : List UInt8} (h : (32 : UInt8) ∉ l) : Lib.indexB (ba (l ++ 32 :: r)) spB = (l.length : Int) := by
 show Lib.index (ba _).data.toList spB.data.toList = _
 rw [ba_list, show spB.data.toList = [32] from rfl, Lib.index_one, ib_at h]
theorem ext_head (l r : List UInt8) : (ba (l ++ 32 :: r)).extract 0 (l.length + 0) = ba l := by
 apply ByteArray.ext
 apply Array.toList_inj.1
 rw [Lib.extract_from_zero]
 show (ba _).data.toList.take _ = (ba _).data.toList
 rw [ba_list, ba_list]
 simp
theorem ext_tail (l r : List UInt8) : (ba (l ++ 32 :: r)).extract (l.length + spB.size) (ba (l ++ 32 :: r)).size = ba r := by
 apply ByteArray.ext
 apply Array.toList_inj.1
 rw [Lib.extract_to_end]
 show (ba _).data.toList.drop _ = (ba _).data.toList
 rw [ba_list, ba_list]
 show (l ++ 32 :: r).drop (l.length + 1) = r
 simp
theorem pieces_one {l : List UInt8} (h : (32 : UInt8) ∉ l) : pieces (ba l) = [ba l] := by
 unfold pieces
 rw [Lib.countB_miss _ _ (idx_no h), Lib.splitB_zero]
theorem pieces_cons {l r : List UInt8} (h : (32 : UInt8) ∉ l) : pieces (ba (l ++ 32 :: r)) = ba l :: pieces (ba r) := by
 unfold pieces
 rw [Lib.countB_hit _ _ l.length (by decide) (idx_at h), ext_tail, Nat.add_comm, Lib.splitB_hit _ _ _ _ l.length (idx_at h), ext_head, ext_tail]
def sIw : ByteArray := ⟨#[105, 110, 116]⟩
def sTw : ByteArray := ⟨#[116, 101, 120, 116]⟩
def fnL (a b : Int) : List UInt8 := [102, 117, 110, 99] ++ 32 :: (Lib.itoa a ++ 32 :: Lib.itoa b)
def intLl (n : Int) : List UInt8 := [105, 110, 116] ++ 32 :: Lib.itoa n
def textLl (x : List UInt8) : List UInt8 := [116, 101, 120, 116] ++ 32 :: hexS x
def insLl (i : Ins) : List UInt8 := Lib.itoa i.op ++ 32 :: (Lib.itoa i.a ++ 32 :: (Lib.itoa i.b ++ 32 :: Lib.itoa i.c))
theorem itoa_no (n : Int) : (32 : UInt8) ∉ Lib.itoa n := by
 intro h
 unfold Lib.itoa at h
 split at h
 ·rcases List.mem_cons.1 h with h | h
  ·exact absurd h (by decide)
  ·have := dec_digs _ _ h
   exact absurd this.1 (by decide)
 ·have := dec_digs _ _ h
  exact absurd this.1 (by decide)
theorem hd_no (n : Nat) : hd n ≠ 32 := by
 rcases Nat.lt_or_ge n 16 with h | h
 ·have hall : ∀ k : Fin 16, hd k.val ≠ 32 := by decide +kernel
  exact hall ⟨n, h⟩
 ·unfold hd
  rw [List.getD_eq_getElem?_getD, List.getElem?_eq_none (by simpa [hexT] using h)]
  decide
theorem hexS_no (l : List UInt8) : (32 : UInt8) ∉ hexS l := by
 unfold hexS
 split
 ·decide
 ·intro h
  unfold hexL at h
  rw [List.mem_flatMap] at h
  obtain ⟨b, _, hb⟩ := h
  simp only [List.mem_cons, List.not_mem_nil, or_false] at hb
  rcases hb with hb | hb
  ·exact hd_no _ hb.symm
  ·exact hd_no _ hb.symm
theorem pieces_fn (a b : Int) : pieces (ba (fnL a b)) = [sFunc, ba (Lib.itoa a), ba (Lib.itoa b)] := by
 unfold fnL
 rw [pieces_cons (by decide), pieces_cons (itoa_no a), pieces_one (itoa_no b)]
 rfl
theorem pieces_int (n : Int) : pieces (ba (intLl n)) = [sIw, ba (Lib.itoa n)] := by
 unfold intLl
 rw [pieces_cons (by decide), pieces_one (itoa_no n)]
 rfl
theorem pieces_text (x : List UInt8) : pieces (ba (textLl x)) = [sTw, ba (hexS x)] := by
 unfold textLl
 rw [pieces_cons (by decide), pieces_one (hexS_no x)]
 rfl
theorem pieces_ins (i : Ins) : pieces (ba (insLl i)) = [ba (Lib.itoa i.op), ba (Lib.itoa i.a), ba (Lib.itoa i.b), ba (Lib.itoa i.c)] := by
 unfold insLl
 rw [pieces_cons (itoa_no _), pieces_cons (itoa_no _), pieces_cons (itoa_no _), pieces_one (itoa_no _)]
theorem tnS_itoa {n : Int} (h : i64 n) : tnS (ba (Lib.itoa n)) = some n := by
 unfold tnS
 rw [ba_list]
 exact tnL_itoa n h.1 h.2
theorem tnS_func : tnS sFunc = none := by kernel_rfl
theorem tnS_int : tnS sIw = none := by kernel_rfl
theorem tnS_text : tnS sTw = none := by kernel_rfl
inductive Grow (s : ByteArray) : List Pr → List Pr → List Int → List Int → List ByteArray → List ByteArray → Prop
 | same (ps : List Pr) (is : List Int) (ts : List ByteArray) : Grow s ps ps is is ts ts
 | fn (ps : List Pr) (is : List Int) (ts : List ByteArray) (a b : Int) (ha : i64 a) (hb : i64 b) : Grow s ps (ps ++ [⟨a, b, []⟩]) is is ts ts
 | ins (ps0 : List Pr) (f : Pr) (is : List Int) (ts : List ByteArray) (i : Ins) (hi : InsW i) : Grow s (ps0 ++ [f]) (ps0 ++ [⟨f.pa, f.rg, f.cd ++ [i]⟩]) is is ts ts
 | int (ps : List Pr) (is : List Int) (ts : List ByteArray) (n : Int) (hn : i64 n) : Grow s ps ps is (is ++ [n]) ts ts
 | text (ps : List Pr) (is : List Int) (ts : List ByteArray) (x : ByteArray) (hx : x.size ≤ s.size) : Grow s ps ps is is ts (ts ++ [x])
structure AddR (s : ByteArray) (ps ps' : List Pr) (is is' : List Int) (ts ts' : List ByteArray) (ok : Bool) : Prop where
 fn : ∀ a b, i64 a → i64 b → s = ba (fnL a b) → ok = true ∧ ps' = ps ++ [⟨a, b, []⟩] ∧ is' = is ∧ ts' = ts
 int : ∀ n, i64 n → s = ba (intLl n) → ok = true ∧ ps' = ps ∧ is' = is ++ [n] ∧ ts' = ts
 text : ∀ x : ByteArray, s = ba (textLl x.data.toList) → ok = true ∧ ps' = ps ∧ is' = is ∧ ts' = ts ++ [x]
 ins : ∀ i ps0 f, ps = ps0 ++ [f] → InsW i → s = ba (insLl i) → ok = true ∧ ps' = ps0 ++ [⟨f.pa, f.rg, f.cd ++ [i]⟩] ∧ is' = is ∧ ts' = ts
 grow : Grow s ps ps' is is' ts ts'
 long : ok = true → 3 ≤ s.size
section
variable {s x y t : ByteArray} {L : List ByteArray} {ps ps0 : List Pr} {is : List Int} {ts : List ByteArray} {ok : Bool} {f : Pr}
theorem long_of {w : ByteArray} (h : pieces s = w :: L) (hw : 3 ≤ w.size) : 3 ≤ s.size := Nat.le_trans hw (pieces_le s w (by rw [h]; exact List.mem_cons_self ..))
theorem AddR.fn_no (h : pieces s = sFunc :: L) (hn : ∀ a b, L.map tnS ≠ [some a, some b]) : AddR s ps ps is is ts ts false := by
 refine ⟨fun a b ha hb e => ?_, fun n hn e => ?_, fun x e => ?_, fun i ps0 f _ hi e => ?_, .same _ _ _, fun h => by cases h⟩
 ·subst e
  rw [pieces_fn] at h
  injection h with _ h
  exact absurd (by rw [← h]; simp [tnS_itoa ha, tnS_itoa hb]) (hn a b)
 ·subst e
  rw [pieces_int] at h
  injection h with h _
  exact absurd h (by decide)
 ·subst e
  rw [pieces_text] at h
  injection h with h _
  exact absurd h (by decide)
 ·subst e
  rw [pieces_ins] at h
  injection h with h _
  have := tnS_itoa hi.op
  rw [h, tnS_func] at this
  cases this
theorem AddR.fn_yes {a b : Int} (h : pieces s = sFunc :: L) (hn : L.map tnS = [some a, some b]) (ha : i64 a) (hb : i64 b) : AddR s ps (ps ++ [⟨a, b, []⟩]) is is ts ts true := by
 refine ⟨fun a' b' ha hb e => ?_, fun n hn e => ?_, fun x e => ?_, fun i ps0 f _ hi e => ?_, .fn _ _ _ a b ha hb, fun _ => long_of h (by decide)⟩
 ·subst e
  rw [pieces_fn] at h
  injection h with _ h
  rw [← h] at hn
  simp [tnS_itoa ha, tnS_itoa hb] at hn
  rw [hn.1, hn.2]
  exact ⟨rfl, rfl, rfl, rfl⟩
 ·subst e
  rw [pieces_int] at h
  injection h with h _
  exact absurd h (by decide)
 ·subst e
  rw [pieces_text] at h
  injection h with h _
  exact absurd h (by decide)
 ·subst e
  rw [pieces_ins] at h
  injection h with h _
  have := tnS_itoa hi.op
  rw [h, tnS_func] at this
  cases this
theorem AddR.int_no (h : pieces s = sIw :: L) (hn : L.length ≠ 1) : AddR s ps ps is is ts ts false := by
 refine ⟨fun a b ha hb e => ?_, fun n hn' e => ?_, fun x e => ?_, fun i ps0 f _ hi e => ?_, .same _ _ _, fun h => by cases h⟩
 ·subst e
  rw [pieces_fn] at h
  injection h with h _
  exact absurd h (by decide)
 ·subst e
  rw [pieces_int] at h
  injection h with _ h
  exact absurd (by rw [← h]; rfl) hn
 ·subst e
  rw [pieces_text] at h
  injection h with h _
  exact absurd h (by decide)
 ·subst e
  rw [pieces_ins] at h
  injection h with h _
  have := tnS_itoa hi.op
  rw [h, tnS_int] at this
  cases this
theorem AddR.int_yes {u : Int} (h : pieces s = [sIw, x]) (hu : i64 u) (hp : (Lib.parseIntB 64 x.data.toList = .ok u ∧ ok = true) ∨ ((∀ v, ¬ Lib.parseIntB 64 x.data.toList = .ok v) ∧ ok = false)) : AddR s ps ps is (is ++ [u]) ts ts ok := by
 refine ⟨fun a b ha hb e => ?_, fun n hn' e => ?_, fun x e => ?_, fun i ps0 f _ hi e => ?_, .int _ _ _ u hu, fun _ => long_of h (by decide)⟩
 ·subst e
  rw [pieces_fn] at h
  injection h with h _
  exact absurd h (by decide)
 ·subst e
  rw [pieces_int] at h
  injection h with _ h
  injection h with h _
  rw [← h, ba_list, parse_itoa n hn'.1 hn'.2] at hp
  rcases hp with ⟨hp, rfl⟩ | ⟨hp, _⟩
  ·injection hp with hp
   rw [hp]
   exact ⟨rfl, rfl, rfl, rfl⟩
  ·exact absurd rfl (hp n)
 ·subst e
  rw [pieces_text] at h
  injection h with h _
  exact absurd h (by decide)
 ·subst e
  rw [pieces_ins] at h
  injection h with h _
  have := tnS_itoa hi.op
  rw [h, tnS_int] at this
  cases this
theorem AddR.text_no (h : pieces s = sTw :: L) (hn : L.length ≠ 1) : AddR s ps ps is is ts ts false := by
 refine ⟨fun a b ha hb e => ?_, fun n hn' e => ?_, fun x e => ?_, fun i ps0 f _ hi e => ?_, .same _ _ _, fun h => by cases h⟩
 ·subst e
  rw [pieces_fn] at h
  injection h with h _
  exact absurd h (by decide)
 ·subst e
  rw [pieces_int] at h
  injection h with h _
  exact absurd h (by decide)
 ·subst e
  rw [pieces_text] at h
  injection h with _ h
  exact absurd (by rw [← h]; rfl) hn
 ·subst e
  rw [pieces_ins] at h
  injection h with h _
  have := tnS_itoa hi.op
  rw [h, tnS_text] at this
  cases this
theorem AddR.text_yes (h : pieces s = [sTw, x]) (ht : t.size ≤ x.size) (hp : ∀ y : ByteArray, x.data.toList = hexS y.data.toList → ok = true ∧ t = y) : AddR s ps ps is is ts (ts ++ [t]) ok := by
 refine ⟨fun a b ha hb e => ?_, fun n hn' e => ?_, fun y e => ?_, fun i ps0 f _ hi e => ?_, .text _ _ _ t (Nat.le_trans ht (pieces_le s x (by rw [h]; simp))), fun _ => long_of h (by decide)⟩
 ·subst e
  rw [pieces_fn] at h
  injection h with h _
  exact absurd h (by decide)
 ·subst e
  rw [pieces_int] at h
  injection h with h _
  exact absurd h (by decide)
 ·subst e
  rw [pieces_text] at h
  injection h with _ h
  injection h with h _
  obtain ⟨h1, h2⟩ := hp y (by rw [← h, ba_list])
  rw [h1, h2]
  exact ⟨rfl, rfl, rfl, rfl⟩
 ·subst e
  rw [pieces_ins] at h
  injection h with h _
  have := tnS_itoa hi.op
  rw [h, tnS_text] at this
  cases this
theorem AddR.ins_no {w : ByteArray} (h : pieces s = w :: L) (h1 : w ≠ sFunc) (h2 : w ≠ sIw) (h3 : w ≠ sTw) (hn : ps = [] ∨ ∀ o a b c, (w :: L).map tnS ≠ [some o, some a, some b, some c]) : AddR s ps ps is is ts ts false := by
 refine ⟨fun a b ha hb e => ?_, fun n hn' e => ?_, fun x e => ?_, fun i ps0 f hps hi e => ?_, .same _ _ _, fun h => by cases h⟩
 ·subst e
  rw [pieces_fn] at h
  injection h with h _
  exact absurd h.symm h1
 ·subst e
  rw [pieces_int] at h
  injection h with h _
  exact absurd h.symm h2
 ·subst e
  rw [pieces_text] at h
  injection h with h _
  exact absurd h.symm h3
 ·subst e
  rw [pieces_ins] at h
  rcases hn with hn | hn
  ·rw [hps] at hn; simp at hn
  ·exact absurd (by rw [← h]; simp [tnS_itoa hi.op, tnS_itoa hi.a, tnS_itoa hi.b, tnS_itoa hi.c]) (hn i.op i.a i.b i.c)
theorem AddR.ins_yes {w : ByteArray} {i : Ins} (h : pieces s = w :: L) (h1 : w ≠ sFunc) (h2 : w ≠ sIw) (h3 : w ≠ sTw) (hn : (w :: L).map tnS = [some i.op, some i.a, some i.b, some i.c]) (hi : InsW i) : AddR s (ps0 ++ [f]) (ps0 ++ [⟨f.pa, f.rg, f.cd ++ [i]⟩]) is is ts ts true := by
 refine ⟨fun a b ha hb e => ?_, fun n hn' e => ?_, fun x e => ?_, fun i' ps1 f' hps hi' e => ?_, .ins _ _ _ _ i hi, fun _ => ?_⟩
 ·subst e
  rw [pieces_fn] at h
  injection h with h _
  exact absurd h.symm h1
 ·subst e
  rw [pieces_int] at h
  injection h with h _
  exact absurd h.symm h2
 ·subst e
  rw [pieces_text] at h
  injection h with h _
  exact absurd h.symm h3
 ·subst e
  rw [pieces_ins] at h
  rw [← h] at hn
  simp [tnS_itoa hi'.op, tnS_itoa hi'.a, tnS_itoa hi'.b, tnS_itoa hi'.c] at hn
  obtain ⟨e1, e2⟩ := List.append_inj' hps rfl
  injection e2 with e2
  subst e1 e2
  have hii : i' = i := by
   obtain ⟨a1, a2, a3, a4⟩ := i
   obtain ⟨b1, b2, b3, b4⟩ := i'
   simp only at hn
   obtain ⟨rfl, rfl, rfl, rfl⟩ := hn
   rfl
  rw [hii]
  exact ⟨rfl, rfl, rfl, rfl⟩
 ·have h4 : (w :: L).length = 4 := by have := congrArg List.length hn; simpa using this
  have h5 := pieces_len s
  rw [h, h4] at h5
  have h6 := Lib.countB_le spB (by decide) s.size s (Nat.le_refl _)
  omega
end
end Go.Proofs.YtfjipoijbmmjcaaGreatDoor
