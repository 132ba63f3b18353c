/- Programs among the arguments of a law: opened. Whether a program may be: the law's walk. A program that does nothing, as this seat's laws ask it. What is read of a text: the law's walk. A program's listing: the law's walk. What this seat's rows list; a program among the arguments, opened with its numbers. -/
import Derived.Test.YtfjipoijbmmjcaaGreatDoorCards
import Derived.Test.YtfjipoijbmmjcaaGreatDoorTie
import Derived.Test.YtfjipoijbmmjcaaGreatDoorYA4
import Derived.Test.YtfjipoijbmmjcaaGreatDoorYA2
import Derived.WalkKit
import Derived.ProofKit
import Derived.OpenShut
import Derived.Deep.DeepHandedRow
import Derived.Deep.Slices
import Derived.Lib.LaidTab
import Derived.Lib.SmallJoins
import Derived.Lay
import Derived.LaidSub
import Derived.ShutString
import Derived.Deep.Strs
import Derived.ChangeSame
import Derived.Carry
import Derived.Test.YtfjipoijbmmjcaaGreatDoorYA8
import Derived.Test.YtfjipoijbmmjcaaGreatDoorYA9
import Derived.Test.YtfjipoijbmmjcaaGreatDoorYA5
import Derived.Test.YtfjipoijbmmjcaaGreatDoorYClO
import Derived.Deep.DeepWitnessRowRef
import Derived.Stop.LaidErr
import Derived.SizedLaws
namespace Go.Proofs.YtfjipoijbmmjcaaGreatDoor
open Go.ChangeShapes Go.WideShapes Go.ChangeAt Go.RowKit Go.Joins Go.Deep
set_option linter.unusedVariables false
set_option linter.unusedSimpArgs false

theorem own : ownKnob Tryz.prog.godebug = none := by kernel_rfl
theorem laidOut : laidOutB Tryz.prog = true := by kernel_rfl
theorem i64_wf {n : Int} (h : (Lit.int .i64 n).wf = true) : i64 n := by
 simp [Lit.wf, IntKind.min, IntKind.max, IntKind.signed, IntKind.bits] at h
 unfold i64
 omega
theorem cell_plain {w : World} {a : Addr} {v : Value} (h : w.cell? a = some v) : a.spot = none := by
 unfold World.cell? at h
 split at h
 ·split at h
  ·cases h
  ·rename_i hs; simpa using hs
 ·cases h
theorem plain_eq {a : Addr} (h : a.spot = none) : a = ⟨a.block, a.off, none⟩ := by cases a; simp at h; subst h; rfl
theorem add_at (b o k : Nat) : (⟨b, o, none⟩ : Addr).add k = ⟨b, o + k, none⟩ := by
 unfold Addr.add
 split
 ·rename_i h; subst h; rfl
 ·rfl
theorem head_plain {w : World} {base : Nat} {a : Addr} {n : Nat} {cs : List Value} (h : w.cells? base (a.add (0 * n)) n = some cs) (hn : 0 < n) : a = ⟨a.block, a.off, none⟩ := by
 obtain ⟨_, hl, hc⟩ := World.cells?_some h
 have h0 := hc 0 hn
 rw [List.getElem?_eq_getElem (by omega)] at h0
 have := cell_plain h0
 simp [Addr.add] at this
 exact plain_eq this
variable {H : Type} {enc : TypeId × Value → H} {w : World} {base : Nat} {sp : Nat → Bool} {hd : Bool}
theorem cell_int : Tryz.prog.cellsOf 3 = 1 := by kernel_rfl
theorem cell_op : Tryz.prog.cellsOf 40 = 1 := by kernel_rfl
theorem cell_code : Tryz.prog.cellsOf 37 = 1 := by kernel_rfl
theorem cell_protos : Tryz.prog.cellsOf 22 = 1 := by kernel_rfl
theorem cell_ints : Tryz.prog.cellsOf 23 = 1 := by kernel_rfl
theorem cell_texts : Tryz.prog.cellsOf 24 = 1 := by kernel_rfl
theorem cell_text : Tryz.prog.cellsOf 9 = 1 := by kernel_rfl
theorem cell_instr : Tryz.prog.cellsOf 42 = 4 := by kernel_rfl
theorem cell_proto : Tryz.prog.cellsOf 39 = 3 := by kernel_rfl
theorem cell_prog : Tryz.prog.cellsOf 26 = 3 := by kernel_rfl
theorem uInt : Tryz.prog.underlying 3 = some (.int .i64) := by kernel_rfl
theorem uOp : Tryz.prog.underlying 40 = some (.int .i64) := by kernel_rfl
theorem uStr : Tryz.prog.underlying 9 = some .string := by kernel_rfl
instance : Inhabited Ins := ⟨⟨0, 0, 0, 0⟩⟩
instance : Inhabited Pr := ⟨⟨0, 0, []⟩⟩
set_option maxRecDepth 100000 in
theorem code_open {n : Nat} {cv : Value} {y : DataW H × List MemPlace} (h : DataW.trod enc Tryz.prog w 0 (fun _ => true) true n 37 [cv] = some y) :
  ∃ l : List Ins, CodeAt w cv l ∧ l.length ≤ maxLen ∧ ∀ i ∈ l, InsW i := by
 rcases open_slice Tryz.underlying37 h with ⟨e, _⟩ | ⟨a, len, cap, m, n', D, Pl, e, _, hlc, hcm, hm, _, hx⟩
 ·cases e
  exact ⟨[], ⟨none, 0, rfl, fun h => by cases h⟩, by decide, fun i hi => by cases hi⟩
 ·cases e
  have hm' : m = cap := by rw [hm]; rfl
  subst hm'
  rw [cell_instr] at hx
  have hone : ∀ i, i < len → ∃ z : Ins, InsW z ∧ a = ⟨a.block, a.off, none⟩ ∧ w.cell? ⟨a.block, a.off + i * 4, none⟩ = some (.int .i64 z.op) ∧ w.cell? ⟨a.block, a.off + i * 4 + 1, none⟩ = some (.int .i64 z.a) ∧ w.cell? ⟨a.block, a.off + i * 4 + 2, none⟩ = some (.int .i64 z.b) ∧ w.cell? ⟨a.block, a.off + i * 4 + 3, none⟩ = some (.int .i64 z.c) := by
   intro i hi
   obtain ⟨cs0, h00, _⟩ := hx 0 (by omega)
   have hpl := head_plain h00 (by omega)
   obtain ⟨cs, hcs, ht⟩ := hx i (by omega)
   rw [hpl, add_at] at hcs
   obtain ⟨_, hl, hc⟩ := World.cells?_some hcs
   obtain ⟨y0, y1, y2, y3, k, _, _, t0, t1, t2, t3⟩ := trod_struct4 Tryz.underlying42 ht
   match cs, hl with
   | [v0, v1, v2, v3], _ =>
    obtain ⟨x0, e0, _, w0⟩ := DataW.trod_int uOp t0
    obtain ⟨x1, e1, _, w1⟩ := DataW.trod_int uInt t1
    obtain ⟨x2, e2, _, w2⟩ := DataW.trod_int uInt t2
    obtain ⟨x3, e3, _, w3⟩ := DataW.trod_int uInt t3
    simp only [cell_op, cell_int, List.drop_zero, List.drop_succ_cons, List.take_succ_cons, List.take_zero, List.cons.injEq, and_true] at e0 e1 e2 e3
    subst e0 e1 e2 e3
    refine ⟨⟨x0, x1, x2, x3⟩, ⟨i64_wf w0, i64_wf w1, i64_wf w2, i64_wf w3⟩, hpl, ?_, ?_, ?_, ?_⟩
    ·have := hc 0 (by omega); rw [add_at] at this; exact this
    ·have := hc 1 (by omega); rw [add_at] at this; exact this
    ·have := hc 2 (by omega); rw [add_at] at this; exact this
    ·have := hc 3 (by omega); rw [add_at] at this; exact this
  obtain ⟨z, hz⟩ := choose_lt hone
  refine ⟨(List.range len).map z, ⟨some a, m, by simp, fun hl => ?_⟩, by simp; omega, ?_⟩
  ·have h0 : 0 < len := by simpa using hl
   refine ⟨a.block, a.off, by rw [← (hz 0 h0).2.1], fun i hi => ?_⟩
   have hi' : i < len := by simpa using hi
   have := (hz i hi').2.2
   simpa using this
  ·intro x hx
   simp only [List.mem_map, List.mem_range] at hx
   obtain ⟨i, hi, rfl⟩ := hx
   exact (hz i hi).1
set_option maxRecDepth 100000 in
theorem protos_open {n : Nat} {cv : Value} {y : DataW H × List MemPlace} (h : DataW.trod enc Tryz.prog w 0 (fun _ => true) true n 22 [cv] = some y) :
  ∃ l : List Pr, ProtosAt w cv l ∧ l.length ≤ maxLen ∧ ∀ f ∈ l, PrW f ∧ f.cd.length ≤ maxLen := by
 rcases open_slice Tryz.underlying22 h with ⟨e, _⟩ | ⟨a, len, cap, m, n', D, Pl, e, _, hlc, hcm, hm, _, hx⟩
 ·cases e
  exact ⟨[], ⟨none, 0, rfl, fun h => by cases h⟩, by decide, fun i hi => by cases hi⟩
 ·cases e
  have hm' : m = cap := by rw [hm]; rfl
  subst hm'
  rw [cell_proto] at hx
  have hone : ∀ i, i < len → ∃ z : Pr, (PrW z ∧ z.cd.length ≤ maxLen) ∧ a = ⟨a.block, a.off, none⟩ ∧ w.cell? ⟨a.block, a.off + i * 3, none⟩ = some (.int .i64 z.pa) ∧ w.cell? ⟨a.block, a.off + i * 3 + 1, none⟩ = some (.int .i64 z.rg) ∧ ∃ cv, w.cell? ⟨a.block, a.off + i * 3 + 2, none⟩ = some cv ∧ CodeAt w cv z.cd := by
   intro i hi
   obtain ⟨cs0, h00, _⟩ := hx 0 (by omega)
   have hpl := head_plain h00 (by omega)
   obtain ⟨cs, hcs, ht⟩ := hx i (by omega)
   rw [hpl, add_at] at hcs
   obtain ⟨_, hl, hc⟩ := World.cells?_some hcs
   obtain ⟨y0, y1, y2, k, _, _, t0, t1, t2⟩ := trod_struct3 Tryz.underlying39 ht
   match cs, hl with
   | [v0, v1, v2], _ =>
    obtain ⟨x0, e0, _, w0⟩ := DataW.trod_int uInt t0
    obtain ⟨x1, e1, _, w1⟩ := DataW.trod_int uInt t1
    simp only [cell_int, cell_code, List.drop_zero, List.drop_succ_cons, List.take_succ_cons, List.take_zero, List.cons.injEq, and_true] at e0 e1 t2
    subst e0 e1
    obtain ⟨l, hl1, hl2, hl3⟩ := code_open t2
    refine ⟨⟨x0, x1, l⟩, ⟨⟨i64_wf w0, i64_wf w1, hl3⟩, hl2⟩, hpl, ?_, ?_, v2, ?_, hl1⟩
    ·have := hc 0 (by omega); rw [add_at] at this; exact this
    ·have := hc 1 (by omega); rw [add_at] at this; exact this
    ·have := hc 2 (by omega); rw [add_at] at this; exact this
  obtain ⟨z, hz⟩ := choose_lt hone
  refine ⟨(List.range len).map z, ⟨some a, m, by simp, fun hl => ?_⟩, by simp; omega, ?_⟩
  ·have h0 : 0 < len := by simpa using hl
   refine ⟨a.block, a.off, by rw [← (hz 0 h0).2.1], fun i hi => ?_⟩
   have hi' : i < len := by simpa using hi
   have := (hz i hi').2.2
   simpa using this
  ·intro x hx
   simp only [List.mem_map, List.mem_range] at hx
   obtain ⟨i, hi, rfl⟩ := hx
   exact (hz i hi).1
theorem texts_open {n : Nat} {cv : Value} {y : DataW H × List MemPlace} (h : DataW.trod enc Tryz.prog w 0 (fun _ => true) true n 24 [cv] = some y) :
  ∃ l : List ByteArray, TextsAt w cv l ∧ l.length ≤ maxLen ∧ ∀ s ∈ l, s.size ≤ maxLen := by
 rcases open_slice1 Tryz.underlying24 cell_text h with ⟨e, _⟩ | ⟨a, len, cap, m, n', V, D, Pl, e, _, hlc, hcm, hm, _, hx⟩
 ·cases e
  exact ⟨[], ⟨none, 0, rfl, fun h => by cases h⟩, by decide, fun i hi => by cases hi⟩
 ·cases e
  have hm' : m = cap := by rw [hm]; rfl
  subst hm'
  have hone : ∀ i, i < len → ∃ s : ByteArray, s.size ≤ maxLen ∧ a = ⟨a.block, a.off, none⟩ ∧ w.cell? ⟨a.block, a.off + i, none⟩ = some (.string s) := by
   intro i hi
   have h00 := (hx 0 (by omega)).1
   have hpl : a = ⟨a.block, a.off, none⟩ := plain_eq (by have := cell_plain h00; simpa [Addr.add] using this)
   obtain ⟨hc, ht⟩ := hx i (by omega)
   obtain ⟨s, e, _, ws⟩ := DataW.trod_string uStr ht
   simp only [List.cons.injEq, and_true] at e
   rw [hpl, add_at, e] at hc
   exact ⟨s, ws, hpl, hc⟩
  obtain ⟨z, hz⟩ := choose_lt hone
  refine ⟨(List.range len).map z, ⟨some a, m, by simp, fun hl => ?_⟩, by simp; omega, ?_⟩
  ·have h0 : 0 < len := by simpa using hl
   refine ⟨a.block, a.off, by rw [← (hz 0 h0).2.1], fun i hi => ?_⟩
   have hi' : i < len := by simpa using hi
   have := (hz i hi').2.2
   simpa using this
  ·intro x hx
   simp only [List.mem_map, List.mem_range] at hx
   obtain ⟨i, hi, rfl⟩ := hx
   exact (hz i hi).1
structure Came (w : World) (vp vi vt : Value) (p : Pg) : Prop where
 lies : Lies w vp vi vt p
 np : p.ps.length ≤ 9223372036854775807
 ni : p.ni ≤ 9223372036854775807
 nt : p.ts.length ≤ 9223372036854775807
 pr : ∀ f ∈ p.ps, PrW f ∧ f.cd.length ≤ 9223372036854775807
 sz : ∀ s ∈ p.ts, s.size ≤ 9223372036854775807
theorem trodAll_ext {P : Program} (hl : laidOutB P = true) {W W' : World} (hb : Below W.heap.size W W') :
  ∀ {ts : List TypeId} {vs : List Value} {ds : List (DataW H)} {ps : List MemPlace}, (ts.all fun t => P.readableRec t && decide (t < P.types.size)) = true → DataW.TrodAll enc P W 0 (fun _ => true) true ts vs ds ps → (∀ x ∈ ps, x.block < W.heap.size) → DataW.TrodAll enc P W' 0 (fun b => decide (b < W.heap.size)) true ts vs ds ps
 | [], [], [], _, _, h, _ => h
 | t :: ts, v :: vs, d :: ds, ps, hr, h, hlt => by
  obtain ⟨p, q, h1, h2, e⟩ := h
  simp only [List.all_cons, Bool.and_eq_true, decide_eq_true_eq] at hr
  subst e
  exact ⟨p, q, Below.trod hl hr.1.1 hr.1.2 h1 hb (fun x hx => hlt x (by simp [hx])), trodAll_ext hl hb (by simpa using hr.2) h2 (fun x hx => hlt x (by simp [hx])), rfl⟩
 | [], _ :: _, _, _, _, h, _ => h.elim
 | [], [], _ :: _, _, _, h, _ => h.elim
 | _ :: _, [], _, _, _, h, _ => h.elim
 | _ :: _, _ :: _, [], _, _, h, _ => h.elim
theorem post_grown {P : Program} {f : Func} {s : ChangeSpec} {apart fresh handsOn : Bool} {W W' : World} {args : Array Value} {v : Value} {ds gs : List (DataW H)} {before : List MemPlace}
  (hl : laidOutB P = true) (hr : (f.params.toList.all fun t => P.readableRec t && decide (t < P.types.size)) = true) (hvar : s.vars = [])
  (hW : DataW.Whole enc P f.params.toList s.vars apart W args.toList ds gs before)
  (hres : ∀ (b : Nat) (sp : Nat → Bool) (hd : Bool), DataW.TrodAll enc P W' b sp hd f.resultTypes.toList (v.resultList f.resultTypes.size) (s.fn H (ds ++ gs)).results [])
  (ha : (s.fn H (ds ++ gs)).args = ds) (hv : (s.fn H (ds ++ gs)).vars = [])
  (he : Ext W W') :
  s.post enc P f apart fresh handsOn false W args v W' := by
 have hlt := hW.lt
 have hW' := hW
 obtain ⟨p, q, hA, hV, rfl, hfz, hnd⟩ := hW
 refine ⟨ds, gs, _, [], p, [], hW', hres _ _ _, ?_, ?_, Below.frame he _, fun h => by cases h⟩
 ·rw [ha]
  exact trodAll_ext hl he hr hA (fun x hx => hlt x (by simp [hx]))
 ·rw [hvar, hv]; exact rfl
end Go.Proofs.YtfjipoijbmmjcaaGreatDoor
namespace Go.Proofs.YtfjipoijbmmjcaaGreatDoor
open Go.RowKit Go.BigFrame
set_option linter.unusedVariables false
set_option linter.unusedSimpArgs false

theorem few_of {p : Pg} (h : NotLarge p) : Few p := ⟨Nat.le_trans h.np (by omega), fun f hf => Nat.le_trans (h.nc f hf) (by omega), Nat.le_trans h.ni (by omega), Nat.le_trans h.nt (by omega), Nat.le_trans (cnt_le p.ps (fun f hf => Nat.le_trans (h.nc f hf) (by omega)) p.ps.length (Nat.le_refl _)) (by have := h.np; omega)⟩
theorem Came.ext {w w' : World} {vp vi vt : Value} {p : Pg} (h : Came w vp vi vt p) (he : Ext w w') : Came w' vp vi vt p := ⟨h.lies.ext he, h.np, h.ni, h.nt, h.pr, h.sz⟩
theorem large_came (p : Pg) (vp vi vt : Value) (w : World) (h : Came w vp vi vt p) : Calls Tryz.prog 5 #[.agg #[vp, vi, vt]] w (LargeSays p w) :=
 large_any p vp vi vt w h.lies h.np h.ni h.nt (fun f hf => (h.pr f hf).2) h.sz
end Go.Proofs.YtfjipoijbmmjcaaGreatDoor
namespace Go.Proofs.YtfjipoijbmmjcaaGreatDoor
open Go.RowKit
set_option linter.unusedVariables false
set_option linter.unusedSimpArgs false

theorem end_few : Few pEnd := ⟨by decide, (by intro f hf; simp [pEnd] at hf; subst hf; decide), by decide, by decide, by decide +kernel⟩
theorem nil_few : Few ⟨[], 0, []⟩ := ⟨by decide, (by intro f hf; cases hf), by decide, by decide, by decide⟩
def pfEnd : Pf := ⟨pEnd.ps, [], []⟩
theorem end_pf {w : World} {vp : Value} (h : Lies w vp (.slice none 0 0) (.slice none 0 0) pEnd) : PfAt w vp (.slice none 0 0) (.slice none 0 0) pfEnd :=
 ⟨h.ps, ⟨none, 0, rfl, fun h => by cases h⟩, h.ts, by decide, by decide, by decide, fun f hf => Nat.le_trans (end_few.nc f hf) (by omega)⟩
theorem end_list : (⟨(listL pfEnd).toArray⟩ : ByteArray) = sEnd := by
 have h : listL pfEnd = protosL pEnd := by
  show pEnd.ps.flatMap protoL ++ [].flatMap intL ++ [].flatMap textL = _
  simp [protosL]
 rw [h]
 exact end_text
set_option maxRecDepth 100000 in
set_option maxHeartbeats 4000000 in
theorem known_any (w : World) (ht : Pow w) : Calls Tryz.prog 6 #[] w fun e w' => e = .returned (.bool true) ∧ Ext w w' := by
 have LI := Lib.hid (end_lies w)
 have cL := fun W (hE : Ext ((w.alloc (.cells #[.int .i64 35, .int .i64 0, .int .i64 0, .int .i64 0] 42)).alloc (.cells #[.int .i64 0, .int .i64 0, .slice (some ⟨w.heap.size, 0, none⟩) 1 1] 39)) W) =>
  list_all pfEnd _ _ _ W (ht.ext ((((Ext.refl w).alloc _).alloc _).trans hE)) (end_pf (LI.out.ext hE)) end_few end_wide (by intro n hn; cases hn) (by intro s hs; cases hs) end_chk
 have cK := fun W (hE : Ext ((w.alloc (.cells #[.int .i64 35, .int .i64 0, .int .i64 0, .int .i64 0] 42)).alloc (.cells #[.int .i64 0, .int .i64 0, .slice (some ⟨w.heap.size, 0, none⟩) 1 1] 39)) W) =>
  chk_any pEnd _ _ _ W (LI.out.ext hE) end_few (by intro s hs; cases hs)
 have cN := fun W => chk_any ⟨[], 0, []⟩ (.slice none 0 0) (.slice none 0 0) (.slice none 0 0) W (nil_lies W) nil_few (by intro s hs; cases hs)
 have cC := fun W (hE : Ext ((w.alloc (.cells #[.int .i64 35, .int .i64 0, .int .i64 0, .int .i64 0] 42)).alloc (.cells #[.int .i64 0, .int .i64 0, .slice (some ⟨w.heap.size, 0, none⟩) 1 1] 39)) W) =>
  count_any pEnd.ps _ (.slice none 0 0) (.slice none 0 0) W (LI.out.ext hE).ps (by decide) end_few.nc
 rw [end_list] at cL
 rw [end_chk] at cK
 rw [nil_chk] at cN
 rw [show cntTo pEnd.ps pEnd.ps.length = 1 from by decide +kernel] at cC
 have se : sEnd.toList = [102, 117, 110, 99, 32, 48, 32, 48, 10, 51, 53, 32, 48, 32, 48, 32, 48, 10] := by rw [Lib.toList_data]; rfl
 go_enter Tryz.func6, Tryz.ntmps6
 go_wp2_with fail
 refine (cL _ ((Ext.refl _).alloc _)).mono ?_
 rintro e w1 ⟨rfl, e1⟩
 have hb := (new_at (W := (w.alloc (.cells #[.int .i64 35, .int .i64 0, .int .i64 0, .int .i64 0] 42)).alloc (.cells #[.int .i64 0, .int .i64 0, .slice (some ⟨w.heap.size, 0, none⟩) 1 1] 39)) (k := w.heap.size + 1 + 1) (by rw [size_alloc, size_alloc]) (.cells #[.slice (some ⟨w.heap.size + 1, 0, none⟩) 1 1, .slice none 0 0, .slice none 0 0] 26))
 have hb1 : Blk w1 (w.heap.size + 1 + 1) 26 #[.slice (some ⟨w.heap.size + 1, 0, none⟩) 1 1, .slice none 0 0, .slice none 0 0] := Blk.ext hb e1
 have k1 := ((Ext.refl _).alloc _).trans e1
 have b0 := hb1.cell 0
 have b1 := hb1.cell 1
 have b2 := hb1.cell 2
 simp only [List.getElem?_toArray, List.getElem?_cons_zero, List.getElem?_cons_succ] at b0 b1 b2
 have K1 := Lib.hid k1
 clear hb hb1 k1 e1
 go_wp2_with fail
 refine (cK _ K1.out).mono ?_
 rintro e w2 ⟨rfl, e2⟩
 replace b0 := e2.cell b0
 replace b1 := e2.cell b1
 replace b2 := e2.cell b2
 have K2 := Lib.hid (K1.out.trans e2)
 clear e2
 go_wp2_with fail
 refine (cN _).mono ?_
 rintro e w3 ⟨rfl, e3⟩
 replace b0 := e3.cell b0
 replace b1 := e3.cell b1
 replace b2 := e3.cell b2
 have K3 := Lib.hid (K2.out.trans e3)
 clear e3
 go_wp2_with fail
 refine (cC _ K3.out).mono ?_
 rintro e w4 ⟨rfl, e4⟩
 have K4 := Lib.hid ((((Ext.refl w).alloc _).alloc _).trans (K3.out.trans e4))
 clear e4 b0 b1 b2
 go_wp2_with fail
 go_ret
 exact ⟨rfl, K4.out⟩
end Go.Proofs.YtfjipoijbmmjcaaGreatDoor
namespace Go.Proofs.YtfjipoijbmmjcaaGreatDoor
open Go.RowKit
set_option linter.unusedVariables false
set_option linter.unusedSimpArgs false

def pfNil : Pf := ⟨[], [], []⟩
theorem nil_pf (w : World) : PfAt w nilS nilS nilS pfNil :=
 ⟨⟨none, 0, rfl, fun h => by cases h⟩, ⟨none, 0, rfl, fun h => by cases h⟩, ⟨none, 0, rfl, fun h => by cases h⟩, by decide, by decide, by decide, fun f hf => by cases hf⟩
theorem PfAt.slices {w : World} {vp vi vt : Value} {p : Pf} (h : PfAt w vp vi vt p) : (∃ q n c, vp = .slice q n c) ∧ (∃ q n c, vi = .slice q n c) ∧ (∃ q n c, vt = .slice q n c) := by
 obtain ⟨q1, c1, e1, _⟩ := h.ps
 obtain ⟨q2, c2, e2, _⟩ := h.is
 obtain ⟨q3, c3, e3, _⟩ := h.ts
 exact ⟨⟨_, _, _, e1⟩, ⟨_, _, _, e2⟩, ⟨_, _, _, e3⟩⟩
theorem PfAt.ext18 {w w' : World} {vp vi vt : Value} {p : Pf} (h : PfAt w vp vi vt p) (he : Ext w w') : PfAt w' vp vi vt p := h.ext he
set_option maxRecDepth 100000 in
set_option maxHeartbeats 4000000 in
theorem vread (s : ByteArray) (w : World) (hL : LLaid w) : Calls Tryz.prog 4 #[.string s] w fun e w' => e = .returned (.bool true) ∧ Ext w w' := by
 have HL := Lib.hid hL
 clear hL
 by_cases hs : s.size ≤ 3000
 rotate_left
 ·have d1 : decide ((3000 : Int) < (s.size : Int)) = true := decide_eq_true (by omega)
  have d2 : decide (3000 < s.size) = true := decide_eq_true (by omega)
  clear hs
  go_enter Tryz.func4, Tryz.ntmps4
  go_wp2_with fail
  refine (known_any _ HL.out.pow).mono ?_
  rintro e w2 ⟨rfl, e2⟩
  go_wp2_with fail
  go_ret
  exact ⟨rfl, e2⟩
 have d1 : decide ((3000 : Int) < (s.size : Int)) = false := decide_eq_false (by omega)
 have d2 : decide (3000 < s.size) = false := decide_eq_false (by omega)
 have cR := read_any w s (fits_short s hs) HL.out
 clear hs
 go_enter Tryz.func4, Tryz.ntmps4
 go_wp2_with fail
 refine cR.mono ?_
 rintro e w1 (⟨xs, rest, ok, ps, is, ts, _, _, _, he, rfl, _⟩ | ⟨ps, is, ts, vp, vi, vt, _, he, rfl, hp, hb, hk, hl⟩)
 ·have HE := Lib.hid he
  clear he cR
  have cS := fun W => rsame_all pfNil pfNil nilS nilS nilS nilS nilS nilS W (nil_pf W) (nil_pf W)
  have b0 := Blk.new w1 26 #[nilS, nilS, nilS]
  have c0 : (w1.alloc (.cells #[nilS, nilS, nilS] 26)).cell? ⟨w1.heap.size, 0, none⟩ = some nilS := b0.cell 0
  have c1 : (w1.alloc (.cells #[nilS, nilS, nilS] 26)).cell? ⟨w1.heap.size, 1, none⟩ = some nilS := b0.cell 1
  have c2 : (w1.alloc (.cells #[nilS, nilS, nilS] 26)).cell? ⟨w1.heap.size, 2, none⟩ = some nilS := b0.cell 2
  clear b0
  go_wp2_with fail
  refine (cS _).mono ?_
  rintro e w2 ⟨rfl, e2⟩
  rw [samB_self]
  have HE2 := Lib.hid ((HE.out.alloc (.cells #[nilS, nilS, nilS] 26)).trans e2)
  clear e2 c0 c1 c2 cS
  go_wp2_with fail
  refine (known_any _ (HL.out.ext HE2.out).pow).mono ?_
  rintro e w3 ⟨rfl, e3⟩
  go_wp2_with fail
  go_ret
  exact ⟨rfl, HE2.out.trans e3⟩
 ·obtain ⟨⟨q1, n1, k1, rfl⟩, ⟨q2, n2, k2, rfl⟩, ⟨q3, n3, k3, rfl⟩⟩ := hp.slices
  obtain ⟨W, hW⟩ : ∃ W, w1.alloc (.cells #[.slice q1 n1 k1, .slice q2 n2 k2, .slice q3 n3 k3] 26) = W := ⟨_, rfl⟩
  have HE1 : Hid (Ext w1 W) := Lib.hid (by rw [← hW]; exact (Ext.refl w1).alloc _)
  have HP := Lib.hid hp
  have HB := Lib.hid hb
  have HE := Lib.hid (he.trans HE1.out)
  have cC := fun X (hE : Ext w1 X) => rchk_any (pgOf ⟨ps, is, ts⟩) _ _ _ true hk X (lies_of (PfAt.ext18 HP.out hE)) HB.out.few (fun s h => Nat.le_trans (HB.out.ts s h) (by omega))
  have cL := fun X (hE : Ext w1 X) => rlist_any ⟨ps, is, ts⟩ _ _ _ X ((HL.out.ext he).ext hE).pow (PfAt.ext18 HP.out hE) HB.out.few HB.out.pr HB.out.is HB.out.ts
  have es : (⟨(listL ⟨ps, is, ts⟩).toArray⟩ : ByteArray) = s := by rw [hl]
  rw [es] at cL
  have b0 := Blk.new w1 26 #[.slice q1 n1 k1, .slice q2 n2 k2, .slice q3 n3 k3]
  have c0 : (w1.alloc (.cells #[.slice q1 n1 k1, .slice q2 n2 k2, .slice q3 n3 k3] 26)).cell? ⟨w1.heap.size, 0, none⟩ = some (.slice q1 n1 k1) := b0.cell 0
  have c1 : (w1.alloc (.cells #[.slice q1 n1 k1, .slice q2 n2 k2, .slice q3 n3 k3] 26)).cell? ⟨w1.heap.size, 1, none⟩ = some (.slice q2 n2 k2) := b0.cell 1
  have c2 : (w1.alloc (.cells #[.slice q1 n1 k1, .slice q2 n2 k2, .slice q3 n3 k3] 26)).cell? ⟨w1.heap.size, 2, none⟩ = some (.slice q3 n3 k3) := b0.cell 2
  rw [hW] at c0 c1 c2
  have HW := Lib.hid hW
  clear hW es hl hk hb hp he b0 cR
  go_wp2_with fail
  rw [HW.out]
  refine (cC W HE1.out).mono ?_
  rintro e w2 ⟨rfl, e2⟩
  have HE2 := Lib.hid (HE1.out.trans e2)
  have HF2 := Lib.hid (HE.out.trans e2)
  replace c0 := e2.cell c0
  replace c1 := e2.cell c1
  replace c2 := e2.cell c2
  clear e2 cC
  go_wp2_with fail
  refine (cL _ HE2.out).mono ?_
  rintro e w3 ⟨rfl, e3⟩
  have HF3 := Lib.hid (HF2.out.trans e3)
  clear e3 c0 c1 c2 cL
  go_wp2_with fail
  refine (known_any _ (HL.out.ext HF3.out).pow).mono ?_
  rintro e w4 ⟨rfl, e4⟩
  go_wp2_with fail
  go_ret
  exact ⟨rfl, HF3.out.trans e4⟩
end Go.Proofs.YtfjipoijbmmjcaaGreatDoor
namespace Go.Proofs.YtfjipoijbmmjcaaGreatDoor
open Go.RowKit
set_option linter.unusedVariables false
set_option linter.unusedSimpArgs false

theorem read_list (p : Pf) (w : World) (hL : LLaid w) (hs : NotLarge (pgOf p)) (hw : ∀ f ∈ p.ps, PrW f) (h64 : ∀ n ∈ p.is, i64 n) (hz : ∀ t ∈ p.ts, t.size ≤ 1048576) (hk : chkP (pgOf p) = true) :
  Calls Tryz.prog 9 #[.string ⟨(listL p).toArray⟩] w fun e w' => Ext w w' ∧ ∃ q1 n1 k1 q2 n2 k2 q3 n3 k3, e = .returned (.tuple #[.agg #[.slice q1 n1 k1, .slice q2 n2 k2, .slice q3 n3 k3], .int .i64 0]) ∧ PfAt w' (.slice q1 n1 k1) (.slice q2 n2 k2) (.slice q3 n3 k3) p := by
 have hl : (⟨(listL p).toArray⟩ : ByteArray).data.toList = listL p := by simp
 refine (read_any w _ (fits_list p _ hl hw h64 hz hs) hL).mono ?_
 rintro e w1 (⟨xs, rest, ok, ps, is, ts, hx, hr, hok, he, rfl, hno⟩ | ⟨ps, is, ts, vp, vi, vt, hr, he, rfl, hp, hb, _, hl2⟩)
 ·obtain ⟨h1, _, h3⟩ := runs_list p _ hl hw h64 hx hr
  obtain ⟨rfl, rfl, rfl⟩ := h3 (hok h1)
  exact absurd ⟨h1, hk, hl.symm⟩ hno
 ·obtain ⟨_, _, h3⟩ := runs_list p _ hl hw h64 (List.append_nil _).symm hr
  obtain ⟨rfl, rfl, rfl⟩ := h3 rfl
  obtain ⟨⟨q1, n1, k1, rfl⟩, ⟨q2, n2, k2, rfl⟩, ⟨q3, n3, k3, rfl⟩⟩ := hp.slices
  exact ⟨he, _, _, _, _, _, _, _, _, _, rfl, hp⟩
set_option maxRecDepth 100000 in
set_option maxHeartbeats 4000000 in
theorem vlist (p : Pf) (vp vi vt : Value) (w : World) (hL : LLaid w) (hp : PfAt w vp vi vt p) (hc : Came w vp vi vt (pgOf p)) (h64 : ∀ n ∈ p.is, i64 n) :
  Calls Tryz.prog 3 #[.agg #[vp, vi, vt]] w fun e w' => e = .returned (.bool true) ∧ Ext w w' := by
 obtain ⟨⟨q1, n1, k1, rfl⟩, ⟨q2, n2, k2, rfl⟩, ⟨q3, n3, k3, rfl⟩⟩ := hp.slices
 have HL := Lib.hid hL
 have HP := Lib.hid hp
 have HC := Lib.hid hc
 have H64 := Lib.hid h64
 have hB : Blk (w.alloc (.cells #[.slice q1 n1 k1, .slice q2 n2 k2, .slice q3 n3 k3] 26)) w.heap.size 26 #[.slice q1 n1 k1, .slice q2 n2 k2, .slice q3 n3 k3] := Blk.new w _ _
 have HB := Lib.hid hB
 have K0 := Lib.hid ((Ext.refl w).alloc (.cells #[.slice q1 n1 k1, .slice q2 n2 k2, .slice q3 n3 k3] 26))
 clear hL hp hc h64 hB
 go_enter Tryz.func3, Tryz.ntmps3
 go_wp2_with fail
 refine (large_came (pgOf p) _ _ _ _ (HC.out.ext K0.out)).mono ?_
 rintro e w1 ⟨b, rfl, e1, hb⟩
 have K1 := Lib.hid (K0.out.trans e1)
 have B1 := Lib.hid (HB.out.ext e1)
 clear e1 HB
 cases b
 rotate_left
 ·clear hb
  go_wp2_with fail
  refine (known_any _ (HL.out.ext K1.out).pow).mono ?_
  rintro e w2 ⟨rfl, e2⟩
  go_wp2_with fail
  go_ret
  exact ⟨rfl, K1.out.trans e2⟩
 have HN := Lib.hid (hb rfl)
 have HF := Lib.hid (few_of HN.out)
 have c0 : w1.cell? ⟨w.heap.size, 0, none⟩ = some (.slice q1 n1 k1) := B1.out.cell 0
 have c1 : w1.cell? ⟨w.heap.size, 1, none⟩ = some (.slice q2 n2 k2) := B1.out.cell 1
 have c2 : w1.cell? ⟨w.heap.size, 2, none⟩ = some (.slice q3 n3 k3) := B1.out.cell 2
 clear hb B1
 cases hk : chkP (pgOf p)
 ·have cL := list_no p _ _ _ w1 (HP.out.ext18 K1.out) HF.out HC.out.sz hk
  have cC := fun X (hE : Ext w X) => rchk_any (pgOf p) _ _ _ false hk X (HC.out.lies.ext hE) HF.out HC.out.sz
  clear hk
  go_wp2_with fail
  refine cL.mono ?_
  rintro e w2 ⟨rfl, e2⟩
  have K2 := Lib.hid (K1.out.trans e2)
  replace c0 := e2.cell c0
  replace c1 := e2.cell c1
  replace c2 := e2.cell c2
  clear e2 cL
  go_wp2_with fail
  refine (cC _ K2.out).mono ?_
  rintro e w3 ⟨rfl, e3⟩
  have K3 := Lib.hid (K2.out.trans e3)
  clear e3 cC c0 c1 c2
  go_wp2_with fail
  refine (known_any _ (HL.out.ext K3.out).pow).mono ?_
  rintro e w4 ⟨rfl, e4⟩
  go_wp2_with fail
  go_ret
  exact ⟨rfl, K3.out.trans e4⟩
 ·have hlong : longB p.ts = false := by
   unfold chkP at hk
   rw [Bool.and_eq_true, Bool.not_eq_true'] at hk
   exact hk.1
  have hz := (sm_of HF.out hlong).sz
  have hpr : ∀ f ∈ p.ps, PrW f := fun f hf => (HC.out.pr f hf).1
  have cL := list_all p _ _ _ w1 (HL.out.ext K1.out).pow (HP.out.ext18 K1.out) HF.out hpr H64.out hz hk
  have cR := fun X (hE : Ext w X) => read_list p X (HL.out.ext hE) HN.out hpr H64.out hz hk
  have cC := fun X (hE : Ext w X) => rchk_any (pgOf p) _ _ _ true hk X (HC.out.lies.ext hE) HF.out HC.out.sz
  have cM := fun X (hE : Ext w X) => rlist_any p _ _ _ X (HL.out.ext hE).pow (HP.out.ext18 hE) HF.out hpr H64.out hz
  obtain ⟨L, hL0⟩ : ∃ L : ByteArray, (⟨(listL p).toArray⟩ : ByteArray) = L := ⟨_, rfl⟩
  rw [hL0] at cL cR cM
  clear hlong hz hpr hk hL0
  go_wp2_with fail
  refine cL.mono ?_
  rintro e w2 ⟨rfl, e2⟩
  have K2 := Lib.hid (K1.out.trans e2)
  replace c0 := e2.cell c0
  replace c1 := e2.cell c1
  replace c2 := e2.cell c2
  clear e2 cL
  go_wp2_with fail
  refine (cC _ K2.out).mono ?_
  rintro e w3 ⟨rfl, e3⟩
  have K3 := Lib.hid (K2.out.trans e3)
  replace c0 := e3.cell c0
  replace c1 := e3.cell c1
  replace c2 := e3.cell c2
  clear e3 cC
  go_wp2_with fail
  refine (cR _ K3.out).mono ?_
  rintro e w4 ⟨e4, r1, m1, j1, r2, m2, j2, r3, m3, j3, rfl, hq⟩
  have K4 := Lib.hid (K3.out.trans e4)
  have E5 := Lib.hid ((Ext.refl w4).alloc (.cells #[.slice r1 m1 j1, .slice r2 m2 j2, .slice r3 m3 j3] 26))
  have HQ := Lib.hid hq
  have b0 := Blk.new w4 26 #[.slice r1 m1 j1, .slice r2 m2 j2, .slice r3 m3 j3]
  replace c0 := e4.cell c0
  replace c1 := e4.cell c1
  replace c2 := e4.cell c2
  have hlt : w.heap.size < w4.heap.size := cell_lt c0
  have d0 := E5.out.cell c0
  have d1 := E5.out.cell c1
  have d2 := E5.out.cell c2
  obtain ⟨W, hW⟩ : ∃ W, w4.alloc (.cells #[.slice r1 m1 j1, .slice r2 m2 j2, .slice r3 m3 j3] 26) = W := ⟨_, rfl⟩
  rw [hW] at d0 d1 d2 E5 b0
  have x0 : W.cell? ⟨w4.heap.size, 0, none⟩ = some (.slice r1 m1 j1) := b0.cell 0
  have x1 : W.cell? ⟨w4.heap.size, 1, none⟩ = some (.slice r2 m2 j2) := b0.cell 1
  have x2 : W.cell? ⟨w4.heap.size, 2, none⟩ = some (.slice r3 m3 j3) := b0.cell 2
  have HW := Lib.hid hW
  have K5 := Lib.hid (K4.out.trans E5.out)
  clear hW b0 hq e4 cR
  go_wp2_with fail
  rw [HW.out]
  refine (cM W K5.out).mono ?_
  rintro e w5 ⟨rfl, e5⟩
  have K6 := Lib.hid (K5.out.trans e5)
  have cS := fun X (hE : Ext w5 X) => rsame_all p p _ _ _ _ _ _ X ((HP.out.ext18 K6.out).ext18 hE) (((HQ.out.ext18 E5.out).ext18 e5).ext18 hE)
  rw [samB_self] at cS
  replace c0 := e5.cell d0
  replace c1 := e5.cell d1
  replace c2 := e5.cell d2
  replace x0 := e5.cell x0
  replace x1 := e5.cell x1
  replace x2 := e5.cell x2
  clear e5 d0 d1 d2 cM hlt
  go_wp2_with fail
  refine (cS _ (Ext.refl _)).mono ?_
  rintro e w6 ⟨rfl, e6⟩
  have K7 := Lib.hid (K6.out.trans e6)
  clear e6 cS c0 c1 c2 x0 x1 x2
  go_wp2_with fail
  refine (known_any _ (HL.out.ext K7.out).pow).mono ?_
  rintro e w7 ⟨rfl, e7⟩
  go_wp2_with fail
  go_ret
  exact ⟨rfl, K7.out.trans e7⟩
end Go.Proofs.YtfjipoijbmmjcaaGreatDoor
namespace Go.Proofs.YtfjipoijbmmjcaaGreatDoor
open Go.ChangeShapes Go.WideShapes Go.ChangeAt Go.RowKit Go.Joins Go.Deep Go.BigFrame Go.ChangeMaps
set_option linter.unusedVariables false
set_option linter.unusedSimpArgs false

abbrev laid7 : List (String × DataW Unit) := [("math/bits.deBruijn32tab", Rows.laid_math_bits_deBruijn32tab), ("math/bits.deBruijn64tab", Rows.laid_math_bits_deBruijn64tab), ("internal/strconv.uint64pow10", Rows.laid_internal_strconv_uint64pow10), ("unicode/utf8.acceptRanges", Rows.laid_unicode_utf8_acceptRanges), ("strconv.ErrRange", Rows.laid_strconv_ErrRange), ("strconv.ErrSyntax", Rows.laid_strconv_ErrSyntax), ("unicode/utf8.first", Rows.laid_unicode_utf8_first)]
theorem starE : "*" ++ "errors.errorString" = "*errors.errorString" := by decide
theorem rowE (u : TypeId) (h : Tryz.prog.typeName? 3 u = some "*errors.errorString") : u = 132 :=
 typeName_ptr_named (nm := "errors.errorString") (by rw [starE]; kernel_rfl) (by kernel_rfl) (by decide) u (by rw [starE]; exact h)
theorem gSyn : Tryz.prog.globalNamed "strconv.ErrSyntax" = some 2 := by kernel_rfl
theorem gRng : Tryz.prog.globalNamed "strconv.ErrRange" = some 3 := by kernel_rfl
set_option maxRecDepth 100000 in
theorem llaid_of {W : World} (h : laidMetH Tryz.prog laid7 W) (hs : W.ShapedOpen Tryz.prog) : LLaid W := by
 refine ⟨?_, ?_, ?_, ?_⟩
 ·exact Lib.tabIs_of_head (t := 107) (e := 97) (n := 20) (rest := []) powG (by kernel_rfl) (by kernel_rfl) (by kernel_rfl) (by kernel_rfl) (by kernel_rfl) (laidMetH.filter (fun x => x.1 == "internal/strconv.uint64pow10") h)
 ·obtain ⟨a, s, hv, _⟩ := laid_sentinel (r := []) (text := [105, 110, 118, 97, 108, 105, 100, 32, 115, 121, 110, 116, 97, 120]) (laidMetH.filter (fun x => x.1 == "strconv.ErrSyntax") h) gSyn (by kernel_rfl) Tryz.underlying50 rowE Tryz.underlying132 Tryz.underlying134 rfl rfl Tryz.underlying9 (by kernel_rfl) (by kernel_rfl)
  exact ⟨_, _, by have h0 := World.var?_cell gSyn hv 0; simpa using h0⟩
 ·obtain ⟨a, s, hv, _⟩ := laid_sentinel (r := []) (text := [118, 97, 108, 117, 101, 32, 111, 117, 116, 32, 111, 102, 32, 114, 97, 110, 103, 101]) (laidMetH.filter (fun x => x.1 == "strconv.ErrRange") h) gRng (by kernel_rfl) Tryz.underlying50 rowE Tryz.underlying132 Tryz.underlying134 rfl rfl Tryz.underlying9 (by kernel_rfl) (by kernel_rfl)
  exact ⟨_, _, by have h0 := World.var?_cell gRng hv 0; simpa using h0⟩
 ·exact Go.Proofs.cell_of_shapedOpen_int (g := 1) (zero := #[.int .i64 0]) (t := 3) hs (of_decide_eq_true (by kernel_rfl)) (by kernel_rfl) rfl (by kernel_rfl) (by kernel_rfl) Tryz.underlying3
theorem laid7_met (os : Os) (args : Array Value) : laidMet Tryz.prog laid7 ((World.laidAll Tryz.prog os laid7).forCall (fun _ _ => 0) ⟨#[], args, []⟩).memory :=
 laidMet_laidAll args (by kernel_rfl) (by kernel_rfl)
theorem nums_open {H : Type} {enc : TypeId × Value → H} {w : World} {n : Nat} {cv : Value} {y : DataW H × List MemPlace} (h : DataW.trod enc Tryz.prog w 0 (fun _ => true) true n 23 [cv] = some y) :
  ∃ l : List Int, NumsAt' w cv l ∧ l.length ≤ maxLen ∧ ∀ x ∈ l, i64 x := by
 rcases open_slice1 Tryz.underlying23 (by kernel_rfl) h with ⟨e, _⟩ | ⟨a, len, cap, m, n', V, D, Pl, e, _, hlc, hcm, hm, _, hx⟩
 ·cases e
  exact ⟨[], ⟨none, 0, rfl, fun h => by cases h⟩, by decide, fun i hi => by cases hi⟩
 ·cases e
  have hm' : m = cap := by rw [hm]; rfl
  subst hm'
  have hone : ∀ i, i < len → ∃ s : Int, i64 s ∧ a = ⟨a.block, a.off, none⟩ ∧ w.cell? ⟨a.block, a.off + i, none⟩ = some (.int .i64 s) := by
   intro i hi
   have h00 := (hx 0 (by omega)).1
   have hpl : a = ⟨a.block, a.off, none⟩ := plain_eq (by have := cell_plain h00; simpa [Addr.add] using this)
   obtain ⟨hc, ht⟩ := hx i (by omega)
   obtain ⟨s, e, _, ws⟩ := DataW.trod_int Tryz.underlying2 ht
   simp only [List.cons.injEq, and_true] at e
   rw [hpl, add_at, e] at hc
   exact ⟨s, i64_wf ws, hpl, hc⟩
  obtain ⟨z, hz⟩ := choose_lt hone
  refine ⟨(List.range len).map z, ⟨some a, m, by simp, fun hl => ?_⟩, by simp; omega, ?_⟩
  ·have h0 : 0 < len := by simpa using hl
   refine ⟨a.block, a.off, by rw [← (hz 0 h0).2.1], fun i hi => ?_⟩
   have hi' : i < len := by simpa using hi
   have := (hz i hi').2.2
   simpa using this
  ·intro x hx
   simp only [List.mem_map, List.mem_range] at hx
   obtain ⟨i, hi, rfl⟩ := hx
   exact (hz i hi).1
set_option maxRecDepth 100000 in
theorem pf_open {H : Type} {enc : TypeId × Value → H} {w : World} {v : Value} {d : DataW H} {pl : List MemPlace} {r : Reach} {b0 : Nat} (hv : Value.okWide Tryz.prog w r b0 26 v) (h : DataW.Trod enc Tryz.prog w 0 (fun _ => true) true 26 v d pl) :
  ∃ vp vi vt p, v = .agg #[vp, vi, vt] ∧ PfAt w vp vi vt p ∧ Came w vp vi vt (pgOf p) ∧ ∀ x ∈ p.is, i64 x := by
 obtain ⟨cs, rfl, hsz⟩ := okWide_struct Tryz.underlying26 hv
 obtain ⟨c0, c1, c2, rfl⟩ := array3 (hsz.trans cell_prog)
 obtain ⟨fuel, hf⟩ := h
 obtain ⟨y0, y1, y2, m, _, _, t0, t1, t2⟩ := trod_struct3 Tryz.underlying26 hf
 simp only [Value.cells, cell_protos, cell_ints, cell_texts, List.drop_zero, List.drop_succ_cons, List.take_succ_cons, List.take_zero] at t0 t1 t2
 have mx : maxLen ≤ 9223372036854775807 := by decide
 obtain ⟨ps, h1, h2, h3⟩ := protos_open t0
 obtain ⟨is, h4, h5, h5'⟩ := nums_open t1
 obtain ⟨ts, h6, h7, h8⟩ := texts_open t2
 have hi : IntsAt c1 is.length := by obtain ⟨q, c, e, _⟩ := h4; exact ⟨q, c, e⟩
 exact ⟨c0, c1, c2, ⟨ps, is, ts⟩, rfl, ⟨h1, h4, h6, Nat.le_trans h2 mx, Nat.le_trans h5 mx, Nat.le_trans h7 mx, fun f hf => Nat.le_trans (h3 f hf).2 mx⟩, ⟨⟨h1, hi, h6⟩, Nat.le_trans h2 mx, Nat.le_trans h5 mx, Nat.le_trans h7 mx, fun f hf => ⟨(h3 f hf).1, Nat.le_trans (h3 f hf).2 mx⟩, fun s hs => Nat.le_trans (h8 s hs) mx⟩, h5'⟩
end Go.Proofs.YtfjipoijbmmjcaaGreatDoor
