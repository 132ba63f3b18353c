/- Programs among the arguments of a law: opened. -/
import Derived.Test.YtifabbjgbfpfbaaDoorCards
import Derived.Test.YtifabbjgbfpfbaaDoorTie
import Derived.Test.YtifabbjgbfpfbaaDoorCodD
import Derived.Test.YtifabbjgbfpfbaaDoorPow
import Derived.WalkKit
import Derived.ProofKit
import Derived.OpenShut
import Derived.Deep.DeepHandedRow
import Derived.Deep.Slices
import Derived.Lib.LaidTab
import Derived.Lib.SmallJoins
import Derived.Lay
import Derived.LaidSub
import Derived.ShutString
import Derived.Deep.Strs
import Derived.ChangeSame
import Derived.Carry
namespace Go.Proofs.YtifabbjgbfpfbaaDoor
open Go.ChangeShapes Go.WideShapes Go.ChangeAt Go.RowKit Go.Joins Go.Deep
set_option linter.unusedVariables false
set_option linter.unusedSimpArgs false

abbrev laid3 : List (String × DataW Unit) := [("math/bits.deBruijn32tab", Rows.laid_math_bits_deBruijn32tab), ("math/bits.deBruijn64tab", Rows.laid_math_bits_deBruijn64tab), ("internal/strconv.uint64pow10", Rows.laid_internal_strconv_uint64pow10)]
theorem own : ownKnob Tryd.prog.godebug = none := by kernel_rfl
theorem pow_of_laid {W : World} (h : laidMetH Tryd.prog laid3 W) : Pow W :=
  Lib.tabIs_of_head (t := 94) (e := 85) (n := 20) (rest := []) powG (by kernel_rfl) (by kernel_rfl) (by kernel_rfl) (by kernel_rfl) (by kernel_rfl) (laidMetH.filter (fun x => x.1 == "internal/strconv.uint64pow10") h)
theorem laid3_met (os : Os) (args : Array Value) : laidMet Tryd.prog laid3 ((World.laidAll Tryd.prog os laid3).forCall (fun _ _ => 0) ⟨#[], args, []⟩).memory :=
  laidMet_laidAll args (by kernel_rfl) (by kernel_rfl)
theorem laidOut : laidOutB Tryd.prog = true := by kernel_rfl

theorem i64_wf {n : Int} (h : (Lit.int .i64 n).wf = true) : i64 n := by
  simp [Lit.wf, IntKind.min, IntKind.max, IntKind.signed, IntKind.bits] at h
  unfold i64
  omega
theorem cell_plain {w : World} {a : Addr} {v : Value} (h : w.cell? a = some v) : a.spot = none := by
  unfold World.cell? at h
  split at h
  · split at h
    · cases h
    · rename_i hs; simpa using hs
  · cases h
theorem plain_eq {a : Addr} (h : a.spot = none) : a = ⟨a.block, a.off, none⟩ := by cases a; simp at h; subst h; rfl
theorem add_at (b o k : Nat) : (⟨b, o, none⟩ : Addr).add k = ⟨b, o + k, none⟩ := by
  unfold Addr.add
  split
  · rename_i h; subst h; rfl
  · rfl
theorem head_plain {w : World} {base : Nat} {a : Addr} {n : Nat} {cs : List Value} (h : w.cells? base (a.add (0 * n)) n = some cs) (hn : 0 < n) : a = ⟨a.block, a.off, none⟩ := by
  obtain ⟨_, hl, hc⟩ := World.cells?_some h
  have h0 := hc 0 hn
  rw [List.getElem?_eq_getElem (by omega)] at h0
  have := cell_plain h0
  simp [Addr.add] at this
  exact plain_eq this
variable {H : Type} {enc : TypeId × Value → H} {w : World} {base : Nat} {sp : Nat → Bool} {hd : Bool}
theorem cell_int : Tryd.prog.cellsOf 3 = 1 := by kernel_rfl
theorem cell_op : Tryd.prog.cellsOf 35 = 1 := by kernel_rfl
theorem cell_code : Tryd.prog.cellsOf 32 = 1 := by kernel_rfl
theorem cell_protos : Tryd.prog.cellsOf 22 = 1 := by kernel_rfl
theorem cell_ints : Tryd.prog.cellsOf 23 = 1 := by kernel_rfl
theorem cell_texts : Tryd.prog.cellsOf 24 = 1 := by kernel_rfl
theorem cell_text : Tryd.prog.cellsOf 9 = 1 := by kernel_rfl
theorem cell_instr : Tryd.prog.cellsOf 37 = 4 := by kernel_rfl
theorem cell_proto : Tryd.prog.cellsOf 34 = 3 := by kernel_rfl
theorem cell_prog : Tryd.prog.cellsOf 26 = 3 := by kernel_rfl
theorem uInt : Tryd.prog.underlying 3 = some (.int .i64) := by kernel_rfl
theorem uOp : Tryd.prog.underlying 35 = some (.int .i64) := by kernel_rfl
theorem uStr : Tryd.prog.underlying 9 = some .string := by kernel_rfl

instance : Inhabited Ins := ⟨⟨0, 0, 0, 0⟩⟩
instance : Inhabited Pr := ⟨⟨0, 0, []⟩⟩
set_option maxRecDepth 100000 in
theorem code_open {n : Nat} {cv : Value} {y : DataW H × List MemPlace} (h : DataW.trod enc Tryd.prog w 0 (fun _ => true) true n 32 [cv] = some y) :
    ∃ l : List Ins, CodeAt w cv l ∧ l.length ≤ maxLen ∧ ∀ i ∈ l, InsW i := by
  rcases open_slice Tryd.underlying32 h with ⟨e, _⟩ | ⟨a, len, cap, m, n', D, Pl, e, _, hlc, hcm, hm, _, hx⟩
  · cases e
    exact ⟨[], ⟨none, 0, rfl, fun h => by cases h⟩, by decide, fun i hi => by cases hi⟩
  · cases e
    have hm' : m = cap := by rw [hm]; rfl
    subst hm'
    rw [cell_instr] at hx
    have hone : ∀ i, i < len → ∃ z : Ins, InsW z ∧ a = ⟨a.block, a.off, none⟩ ∧ w.cell? ⟨a.block, a.off + i * 4, none⟩ = some (.int .i64 z.op) ∧ w.cell? ⟨a.block, a.off + i * 4 + 1, none⟩ = some (.int .i64 z.a) ∧ w.cell? ⟨a.block, a.off + i * 4 + 2, none⟩ = some (.int .i64 z.b) ∧ w.cell? ⟨a.block, a.off + i * 4 + 3, none⟩ = some (.int .i64 z.c) := by
      intro i hi
      obtain ⟨cs0, h00, _⟩ := hx 0 (by omega)
      have hpl := head_plain h00 (by omega)
      obtain ⟨cs, hcs, ht⟩ := hx i (by omega)
      rw [hpl, add_at] at hcs
      obtain ⟨_, hl, hc⟩ := World.cells?_some hcs
      obtain ⟨y0, y1, y2, y3, k, _, _, t0, t1, t2, t3⟩ := trod_struct4 Tryd.underlying37 ht
      match cs, hl with
      | [v0, v1, v2, v3], _ =>
        obtain ⟨x0, e0, _, w0⟩ := DataW.trod_int uOp t0
        obtain ⟨x1, e1, _, w1⟩ := DataW.trod_int uInt t1
        obtain ⟨x2, e2, _, w2⟩ := DataW.trod_int uInt t2
        obtain ⟨x3, e3, _, w3⟩ := DataW.trod_int uInt t3
        simp only [cell_op, cell_int, List.drop_zero, List.drop_succ_cons, List.take_succ_cons, List.take_zero, List.cons.injEq, and_true] at e0 e1 e2 e3
        subst e0 e1 e2 e3
        refine ⟨⟨x0, x1, x2, x3⟩, ⟨i64_wf w0, i64_wf w1, i64_wf w2, i64_wf w3⟩, hpl, ?_, ?_, ?_, ?_⟩
        · have := hc 0 (by omega); rw [add_at] at this; exact this
        · have := hc 1 (by omega); rw [add_at] at this; exact this
        · have := hc 2 (by omega); rw [add_at] at this; exact this
        · have := hc 3 (by omega); rw [add_at] at this; exact this
    obtain ⟨z, hz⟩ := choose_lt hone
    refine ⟨(List.range len).map z, ⟨some a, m, by simp, fun hl => ?_⟩, by simp; omega, ?_⟩
    · have h0 : 0 < len := by simpa using hl
      refine ⟨a.block, a.off, by rw [← (hz 0 h0).2.1], fun i hi => ?_⟩
      have hi' : i < len := by simpa using hi
      have := (hz i hi').2.2
      simpa using this
    · intro x hx
      simp only [List.mem_map, List.mem_range] at hx
      obtain ⟨i, hi, rfl⟩ := hx
      exact (hz i hi).1
set_option maxRecDepth 100000 in
theorem protos_open {n : Nat} {cv : Value} {y : DataW H × List MemPlace} (h : DataW.trod enc Tryd.prog w 0 (fun _ => true) true n 22 [cv] = some y) :
    ∃ l : List Pr, ProtosAt w cv l ∧ l.length ≤ maxLen ∧ ∀ f ∈ l, PrW f ∧ f.cd.length ≤ maxLen := by
  rcases open_slice Tryd.underlying22 h with ⟨e, _⟩ | ⟨a, len, cap, m, n', D, Pl, e, _, hlc, hcm, hm, _, hx⟩
  · cases e
    exact ⟨[], ⟨none, 0, rfl, fun h => by cases h⟩, by decide, fun i hi => by cases hi⟩
  · cases e
    have hm' : m = cap := by rw [hm]; rfl
    subst hm'
    rw [cell_proto] at hx
    have hone : ∀ i, i < len → ∃ z : Pr, (PrW z ∧ z.cd.length ≤ maxLen) ∧ a = ⟨a.block, a.off, none⟩ ∧ w.cell? ⟨a.block, a.off + i * 3, none⟩ = some (.int .i64 z.pa) ∧ w.cell? ⟨a.block, a.off + i * 3 + 1, none⟩ = some (.int .i64 z.rg) ∧ ∃ cv, w.cell? ⟨a.block, a.off + i * 3 + 2, none⟩ = some cv ∧ CodeAt w cv z.cd := by
      intro i hi
      obtain ⟨cs0, h00, _⟩ := hx 0 (by omega)
      have hpl := head_plain h00 (by omega)
      obtain ⟨cs, hcs, ht⟩ := hx i (by omega)
      rw [hpl, add_at] at hcs
      obtain ⟨_, hl, hc⟩ := World.cells?_some hcs
      obtain ⟨y0, y1, y2, k, _, _, t0, t1, t2⟩ := trod_struct3 Tryd.underlying34 ht
      match cs, hl with
      | [v0, v1, v2], _ =>
        obtain ⟨x0, e0, _, w0⟩ := DataW.trod_int uInt t0
        obtain ⟨x1, e1, _, w1⟩ := DataW.trod_int uInt t1
        simp only [cell_int, cell_code, List.drop_zero, List.drop_succ_cons, List.take_succ_cons, List.take_zero, List.cons.injEq, and_true] at e0 e1 t2
        subst e0 e1
        obtain ⟨l, hl1, hl2, hl3⟩ := code_open t2
        refine ⟨⟨x0, x1, l⟩, ⟨⟨i64_wf w0, i64_wf w1, hl3⟩, hl2⟩, hpl, ?_, ?_, v2, ?_, hl1⟩
        · have := hc 0 (by omega); rw [add_at] at this; exact this
        · have := hc 1 (by omega); rw [add_at] at this; exact this
        · have := hc 2 (by omega); rw [add_at] at this; exact this
    obtain ⟨z, hz⟩ := choose_lt hone
    refine ⟨(List.range len).map z, ⟨some a, m, by simp, fun hl => ?_⟩, by simp; omega, ?_⟩
    · have h0 : 0 < len := by simpa using hl
      refine ⟨a.block, a.off, by rw [← (hz 0 h0).2.1], fun i hi => ?_⟩
      have hi' : i < len := by simpa using hi
      have := (hz i hi').2.2
      simpa using this
    · intro x hx
      simp only [List.mem_map, List.mem_range] at hx
      obtain ⟨i, hi, rfl⟩ := hx
      exact (hz i hi).1
theorem texts_open {n : Nat} {cv : Value} {y : DataW H × List MemPlace} (h : DataW.trod enc Tryd.prog w 0 (fun _ => true) true n 24 [cv] = some y) :
    ∃ l : List ByteArray, TextsAt w cv l ∧ l.length ≤ maxLen ∧ ∀ s ∈ l, s.size ≤ maxLen := by
  rcases open_slice1 Tryd.underlying24 cell_text h with ⟨e, _⟩ | ⟨a, len, cap, m, n', V, D, Pl, e, _, hlc, hcm, hm, _, hx⟩
  · cases e
    exact ⟨[], ⟨none, 0, rfl, fun h => by cases h⟩, by decide, fun i hi => by cases hi⟩
  · cases e
    have hm' : m = cap := by rw [hm]; rfl
    subst hm'
    have hone : ∀ i, i < len → ∃ s : ByteArray, s.size ≤ maxLen ∧ a = ⟨a.block, a.off, none⟩ ∧ w.cell? ⟨a.block, a.off + i, none⟩ = some (.string s) := by
      intro i hi
      have h00 := (hx 0 (by omega)).1
      have hpl : a = ⟨a.block, a.off, none⟩ := plain_eq (by have := cell_plain h00; simpa [Addr.add] using this)
      obtain ⟨hc, ht⟩ := hx i (by omega)
      obtain ⟨s, e, _, ws⟩ := DataW.trod_string uStr ht
      simp only [List.cons.injEq, and_true] at e
      rw [hpl, add_at, e] at hc
      exact ⟨s, ws, hpl, hc⟩
    obtain ⟨z, hz⟩ := choose_lt hone
    refine ⟨(List.range len).map z, ⟨some a, m, by simp, fun hl => ?_⟩, by simp; omega, ?_⟩
    · have h0 : 0 < len := by simpa using hl
      refine ⟨a.block, a.off, by rw [← (hz 0 h0).2.1], fun i hi => ?_⟩
      have hi' : i < len := by simpa using hi
      have := (hz i hi').2.2
      simpa using this
    · intro x hx
      simp only [List.mem_map, List.mem_range] at hx
      obtain ⟨i, hi, rfl⟩ := hx
      exact (hz i hi).1
theorem ints_open {n : Nat} {cv : Value} {y : DataW H × List MemPlace} (h : DataW.trod enc Tryd.prog w 0 (fun _ => true) true n 23 [cv] = some y) :
    ∃ k : Nat, IntsAt cv k ∧ k ≤ maxLen := by
  rcases open_slice Tryd.underlying23 h with ⟨e, _⟩ | ⟨a, len, cap, m, n', D, Pl, e, _, hlc, hcm, hm, _, hx⟩
  · cases e
    exact ⟨0, ⟨none, 0, rfl⟩, by decide⟩
  · cases e
    exact ⟨len, ⟨some a, cap, rfl⟩, by omega⟩
/-- What is known of a program that came in. -/
structure Came (w : World) (vp vi vt : Value) (p : Pg) : Prop where
  lies : Lies w vp vi vt p
  np : p.ps.length ≤ 9223372036854775807
  ni : p.ni ≤ 9223372036854775807
  nt : p.ts.length ≤ 9223372036854775807
  pr : ∀ f ∈ p.ps, PrW f ∧ f.cd.length ≤ 9223372036854775807
  sz : ∀ s ∈ p.ts, s.size ≤ 9223372036854775807
set_option maxRecDepth 100000 in
theorem prog_open {v : Value} {d : DataW H} {pl : List MemPlace} {r : Reach} {b0 : Nat} (hv : Value.okWide Tryd.prog w r b0 26 v) (h : DataW.Trod enc Tryd.prog w 0 (fun _ => true) true 26 v d pl) :
    ∃ vp vi vt p, v = .agg #[vp, vi, vt] ∧ Came w vp vi vt p := by
  obtain ⟨cs, rfl, hsz⟩ := okWide_struct Tryd.underlying26 hv
  obtain ⟨c0, c1, c2, rfl⟩ := array3 (hsz.trans cell_prog)
  obtain ⟨fuel, hf⟩ := h
  obtain ⟨y0, y1, y2, m, _, _, t0, t1, t2⟩ := trod_struct3 Tryd.underlying26 hf
  simp only [Value.cells, cell_protos, cell_ints, cell_texts, List.drop_zero, List.drop_succ_cons, List.take_succ_cons, List.take_zero] at t0 t1 t2
  have mx : maxLen ≤ 9223372036854775807 := by decide
  obtain ⟨ps, h1, h2, h3⟩ := protos_open t0
  obtain ⟨k, h4, h5⟩ := ints_open t1
  obtain ⟨ts, h6, h7, h8⟩ := texts_open t2
  exact ⟨c0, c1, c2, ⟨ps, k, ts⟩, rfl, ⟨h1, h4, h6⟩, Nat.le_trans h2 mx, Nat.le_trans h5 mx, Nat.le_trans h7 mx, fun f hf => ⟨(h3 f hf).1, Nat.le_trans (h3 f hf).2 mx⟩, fun s hs => Nat.le_trans (h8 s hs) mx⟩

/-- The arguments read behind a call as they did, where only new blocks were made. -/
theorem trodAll_ext {P : Program} (hl : laidOutB P = true) {W W' : World} (hb : Below W.heap.size W W') :
    ∀ {ts : List TypeId} {vs : List Value} {ds : List (DataW H)} {ps : List MemPlace}, (ts.all fun t => P.readableRec t && decide (t < P.types.size)) = true → DataW.TrodAll enc P W 0 (fun _ => true) true ts vs ds ps → (∀ x ∈ ps, x.block < W.heap.size) → DataW.TrodAll enc P W' 0 (fun b => decide (b < W.heap.size)) true ts vs ds ps
  | [], [], [], _, _, h, _ => h
  | t :: ts, v :: vs, d :: ds, ps, hr, h, hlt => by
    obtain ⟨p, q, h1, h2, e⟩ := h
    simp only [List.all_cons, Bool.and_eq_true, decide_eq_true_eq] at hr
    subst e
    exact ⟨p, q, Below.trod hl hr.1.1 hr.1.2 h1 hb (fun x hx => hlt x (by simp [hx])), trodAll_ext hl hb (by simpa using hr.2) h2 (fun x hx => hlt x (by simp [hx])), rfl⟩
  | [], _ :: _, _, _, _, h, _ => h.elim
  | [], [], _ :: _, _, _, h, _ => h.elim
  | _ :: _, [], _, _, _, h, _ => h.elim
  | _ :: _, _ :: _, [], _, _, h, _ => h.elim
/-- What is asked behind a call that hands a Bool back and makes only new blocks, whatever its arguments. -/
theorem post_grown {P : Program} {f : Func} {s : ChangeSpec} {apart fresh handsOn : Bool} {W W' : World} {args : Array Value} {v : Value} {ds gs : List (DataW H)} {before : List MemPlace}
    (hl : laidOutB P = true) (hr : (f.params.toList.all fun t => P.readableRec t && decide (t < P.types.size)) = true) (hvar : s.vars = [])
    (hW : DataW.Whole enc P f.params.toList s.vars apart W args.toList ds gs before)
    (hres : ∀ (b : Nat) (sp : Nat → Bool) (hd : Bool), DataW.TrodAll enc P W' b sp hd f.resultTypes.toList (v.resultList f.resultTypes.size) (s.fn H (ds ++ gs)).results [])
    (ha : (s.fn H (ds ++ gs)).args = ds) (hv : (s.fn H (ds ++ gs)).vars = [])
    (he : Ext W W') :
    s.post enc P f apart fresh handsOn false W args v W' := by
  have hlt := hW.lt
  have hW' := hW
  obtain ⟨p, q, hA, hV, rfl, hfz, hnd⟩ := hW
  refine ⟨ds, gs, _, [], p, [], hW', hres _ _ _, ?_, ?_, Below.frame he _, fun h => by cases h⟩
  · rw [ha]
    exact trodAll_ext hl he hr hA (fun x hx => hlt x (by simp [hx]))
  · rw [hvar, hv]; exact rfl
end Go.Proofs.YtifabbjgbfpfbaaDoor
