/- Texts, bytes, replies among the arguments of a law: opened. -/
import Derived.Test.YtopdgmchkoaeeaaDoorCards
import Derived.Test.YtopdgmchkoaeeaaDoorTie
import Derived.Test.YtopdgmchkoaeeaaDoorRtO
import Derived.Test.YtopdgmchkoaeeaaDoorRtR
import Derived.Test.YtopdgmchkoaeeaaDoorPow
import Derived.WalkKit
import Derived.ProofKit
import Derived.OpenShut
import Derived.Deep.DeepHandedRow
import Derived.Deep.Slices
import Derived.Lib.LaidTab
import Derived.Lib.SmallJoins
import Derived.Lay
import Derived.LaidSub
import Derived.ShutString
import Derived.Deep.Strs
import Derived.ChangeSame
import Derived.Carry
import Derived.SizedLaws
namespace Go.Proofs.YtopdgmchkoaeeaaDoor
open Go.ChangeShapes Go.WideShapes Go.ChangeAt Go.RowKit Go.Joins Go.Deep
set_option linter.unusedVariables false
set_option linter.unusedSimpArgs false

abbrev laid3 : List (String × DataW Unit) := [("math/bits.deBruijn32tab", Rows.laid_math_bits_deBruijn32tab), ("math/bits.deBruijn64tab", Rows.laid_math_bits_deBruijn64tab), ("internal/strconv.uint64pow10", Rows.laid_internal_strconv_uint64pow10)]
theorem own : ownKnob Tryd.prog.godebug = none := by kernel_rfl
theorem pow_of_laid {W : World} (h : laidMetH Tryd.prog laid3 W) : Pow W :=
  Lib.tabIs_of_head (t := 127) (e := 87) (n := 20) (rest := []) powG (by kernel_rfl) (by kernel_rfl) (by kernel_rfl) (by kernel_rfl) (by kernel_rfl) (laidMetH.filter (fun x => x.1 == "internal/strconv.uint64pow10") h)
theorem laid3_met (os : Os) (args : Array Value) : laidMet Tryd.prog laid3 ((World.laidAll Tryd.prog os laid3).forCall (fun _ _ => 0) ⟨#[], args, []⟩).memory :=
  laidMet_laidAll args (by kernel_rfl) (by kernel_rfl)
theorem laidOut : laidOutB Tryd.prog = true := by kernel_rfl

theorem i64_wf {n : Int} (h : (Lit.int .i64 n).wf = true) : -9223372036854775808 ≤ n ∧ n ≤ 9223372036854775807 := by
  simp [Lit.wf, IntKind.min, IntKind.max, IntKind.signed, IntKind.bits] at h
  omega
theorem cell_plain {w : World} {a : Addr} {v : Value} (h : w.cell? a = some v) : a.spot = none := by
  unfold World.cell? at h
  split at h
  · split at h
    · cases h
    · rename_i hs; simpa using hs
  · cases h
theorem plain_eq {a : Addr} (h : a.spot = none) : a = ⟨a.block, a.off, none⟩ := by cases a; simp at h; subst h; rfl
theorem add_at (b o k : Nat) : (⟨b, o, none⟩ : Addr).add k = ⟨b, o + k, none⟩ := by
  unfold Addr.add
  split
  · rename_i h; subst h; rfl
  · rfl
theorem head_plain {w : World} {base : Nat} {a : Addr} {n : Nat} {cs : List Value} (h : w.cells? base (a.add (0 * n)) n = some cs) (hn : 0 < n) : a = ⟨a.block, a.off, none⟩ := by
  obtain ⟨_, hl, hc⟩ := World.cells?_some h
  have h0 := hc 0 hn
  rw [List.getElem?_eq_getElem (by omega)] at h0
  have := cell_plain h0
  simp [Addr.add] at this
  exact plain_eq this
variable {H : Type} {enc : TypeId × Value → H} {w : World} {base : Nat} {sp : Nat → Bool} {hd : Bool}
theorem cell_int : Tryd.prog.cellsOf 3 = 1 := by kernel_rfl
theorem cell_int64 : Tryd.prog.cellsOf 2 = 1 := by kernel_rfl
theorem cell_kind : Tryd.prog.cellsOf 38 = 1 := by kernel_rfl
theorem cell_text : Tryd.prog.cellsOf 9 = 1 := by kernel_rfl
theorem cell_byte : Tryd.prog.cellsOf 5 = 1 := by kernel_rfl
theorem cell_list : Tryd.prog.cellsOf 39 = 1 := by kernel_rfl
theorem cell_reply : Tryd.prog.cellsOf 41 = 4 := by kernel_rfl
theorem uInt : Tryd.prog.underlying 2 = some (.int .i64) := by kernel_rfl
theorem uKind : Tryd.prog.underlying 38 = some (.int .i64) := by kernel_rfl
theorem uStr : Tryd.prog.underlying 9 = some .string := by kernel_rfl
theorem uByte : Tryd.prog.underlying 5 = some (.int .u8) := by kernel_rfl
instance : Inhabited Rep := ⟨.mk 0 0 ⟨#[]⟩ []⟩
theorem weights_all {P : Program} {e : TypeId} : ∀ (l : List (DataW H)) (d : DataW H), d ∈ l → ∀ n ∈ d.weights P e, n ∈ DataW.weightsAll P e l
  | x :: l, d, h, n, hn => by
    rcases List.mem_cons.mp h with rfl | h
    · simp only [DataW.weightsAll, List.mem_append]; exact .inl hn
    · simp only [DataW.weightsAll, List.mem_append]; exact .inr (weights_all l d h n hn)
theorem weights_slice {P : Program} {t e : TypeId} (hu : P.underlying t = some (.slice e)) (l sp : List (DataW H)) (d : DataW H) (hd : d ∈ l) (n : Nat) (hn : n ∈ d.weights P e) : n ∈ (DataW.slice l sp).weights P t := by
  rw [DataW.weights, hu]
  simp only [List.mem_cons, List.mem_append]
  exact .inr (.inl (weights_all l d hd n hn))
set_option maxRecDepth 100000 in
theorem texts_open {n : Nat} {cv : Value} {y : DataW H × List MemPlace} (h : DataW.trod enc Tryd.prog w 0 (fun _ => true) true n 22 [cv] = some y) :
    ∃ l : List ByteArray, TxAt w cv l ∧ ∀ s ∈ l, s.size ∈ y.1.weights Tryd.prog 22 := by
  rcases open_slice1 Tryd.underlying22 cell_text h with ⟨e, _⟩ | ⟨a, len, cap, m, n', V, D, Pl, e, _, hlc, hcm, hm, ex, hx⟩
  · cases e
    exact ⟨[], ⟨by simp, none, 0, rfl, fun h => by cases h⟩, fun i hi => by cases hi⟩
  · cases e
    have hm' : m = cap := by rw [hm]; rfl
    subst hm'
    have hone : ∀ i, i < len → ∃ s : ByteArray, s.size ∈ (D i).weights Tryd.prog 9 ∧ a = ⟨a.block, a.off, none⟩ ∧ w.cell? ⟨a.block, a.off + i, none⟩ = some (.string s) := by
      intro i hi
      have h00 := (hx 0 (by omega)).1
      have hpl : a = ⟨a.block, a.off, none⟩ := plain_eq (by have := cell_plain h00; simpa [Addr.add] using this)
      obtain ⟨hc, ht⟩ := hx i (by omega)
      obtain ⟨s, e, ed, ws⟩ := DataW.trod_string uStr ht
      simp only [List.cons.injEq, and_true] at e
      rw [hpl, add_at, e] at hc
      refine ⟨s, ?_, hpl, hc⟩
      have ed' : D i = .lit (.string s.data.toList) := by first | exact (Prod.mk.inj ed).1 | simpa [Lib.toList_data] using (Prod.mk.inj ed).1
      rw [ed']
      simp [DataW.weights]
    obtain ⟨z, hz⟩ := choose_lt hone
    refine ⟨(List.range len).map z, ⟨by simp; unfold maxLen at hcm; omega, some a, m, by simp, fun hl => ?_⟩, ?_⟩
    · have h0 : 0 < len := by simpa using hl
      refine ⟨a.block, a.off, by rw [← (hz 0 h0).2.1], fun i hi => ?_⟩
      have hi' : i < len := by simpa using hi
      have := (hz i hi').2.2
      simpa using this
    · intro x hx
      simp only [List.mem_map, List.mem_range] at hx
      obtain ⟨i, hi, rfl⟩ := hx
      have h1 := (hz i hi).1
      have h2 : D i ∈ (List.range len).map D := List.mem_map.mpr ⟨i, List.mem_range.mpr hi, rfl⟩
      rw [ex]
      exact weights_slice (P := Tryd.prog) (t := 22) (e := 9) Tryd.underlying22 ((List.range len).map D) ((List.range (m - len)).map fun j => D (len + j)) (D i) h2 _ h1
set_option maxRecDepth 100000 in
theorem texts_open1 {v : Value} {d : DataW H} {pl : List MemPlace} {r : Reach} {b0 : Nat} (hv : Value.okWide Tryd.prog w r b0 22 v) (h : DataW.Trod enc Tryd.prog w 0 (fun _ => true) true 22 v d pl) :
    ∃ l : List ByteArray, TxAt w v l ∧ ∀ s ∈ l, s.size ∈ d.weights Tryd.prog 22 := by
  obtain ⟨n, h⟩ := h
  unfold Value.okWide at hv
  rw [Tryd.underlying22] at hv
  simp only [Cell.okWide, Cell.ok, Tryd.underlying22] at hv
  cases v with
  | slice q len cap => exact texts_open h
  | _ => first | exact absurd hv (by simp) | (simp at hv)
theorem reach_each {P : Program} {ts : List TypeId} {ds : List (DataW H)} (h : (DataW.weightsEach P ts ds).all (· ≤ reachBytes) = true) {j : Nat} {t : TypeId} {d : DataW H} (ht : ts[j]? = some t) (hd : ds[j]? = some d) : ∀ n ∈ d.weights P t, n ≤ 140737488355328 := by
  intro n hn
  have := List.all_eq_true.1 h _ (DataW.weights_mem_each ht hd n hn)
  have h2 : n ≤ reachBytes := by simpa using this
  have h3 : reachBytes ≤ 140737488355328 := by decide
  omega
theorem u8_wf {n : Int} (h : (Lit.int .u8 n).wf = true) : 0 ≤ n ∧ n < 256 := by
  simp [Lit.wf, IntKind.min, IntKind.max, IntKind.signed, IntKind.bits] at h
  omega
set_option maxRecDepth 100000 in
theorem bytes_open {v : Value} {d : DataW H} {pl : List MemPlace} {r : Reach} {b0 : Nat} (hv : Value.okWide Tryd.prog w r b0 25 v) (h : DataW.Trod enc Tryd.prog w 0 (fun _ => true) true 25 v d pl) :
    ∃ q c l, v = .slice q l.length c ∧ BytesAt w q c l := by
  have mx : maxLen ≤ 9223372036854775807 := by decide
  obtain ⟨n, h⟩ := h
  unfold Value.okWide at hv
  rw [Tryd.underlying25] at hv
  simp only [Cell.okWide, Cell.ok, Tryd.underlying25] at hv
  cases v with
  | slice q len cap =>
    simp only [Value.cells] at h
    rcases open_slice1 Tryd.underlying25 cell_byte h with ⟨e, _⟩ | ⟨a, len', cap', m, n', V, D, Pl, e, _, hlc, hcm, hm, _, hx⟩
    · cases e
      exact ⟨none, 0, [], rfl, ⟨fun k hk => absurd hk (by simp), by simp, .inl ⟨rfl, rfl⟩, ⟨Nat.le_refl _, by omega⟩⟩⟩
    · cases e
      have hm' : m = cap := by rw [hm]; rfl
      subst hm'
      obtain ⟨_, _, _, hsp, row, cells, hsh, _⟩ := hv
      have hpl : a = ⟨a.block, a.off, none⟩ := plain_eq hsp
      have hone : ∀ i, i < len → ∃ z : UInt8, w.cell? ⟨a.block, a.off + i, none⟩ = some (.int .u8 (z.toNat : Int)) := by
        intro i hi
        obtain ⟨hc, ht⟩ := hx i (by omega)
        obtain ⟨x, e, _, wx⟩ := DataW.trod_int uByte ht
        simp only [List.cons.injEq, and_true] at e
        rw [hpl, add_at, e] at hc
        have hw := u8_wf wx
        refine ⟨UInt8.ofNat x.toNat, ?_⟩
        rw [hc]
        congr 2
        rw [ofNat_toNat (by omega)]
        omega
      obtain ⟨z, hz⟩ := choose_lt hone
      have hbl : a.block < w.heap.size := by
        rcases Nat.lt_or_ge a.block w.heap.size with h | h
        · exact h
        · simp [World.shape?, Array.getElem?_eq_none h] at hsh
      refine ⟨some a, m, (List.range len).map z, by simp, ⟨fun k hk => ⟨a.block, a.off, by rw [← hpl], ?_⟩, by simp; omega, .inr ⟨a.block, a.off, by rw [← hpl], hbl⟩, ⟨by simpa using hlc, by omega⟩⟩⟩
      have hk' : k < len := by simpa using hk
      have h9 := hz k hk'
      simp only [List.getElem_map, List.getElem_range]
      exact h9
  | _ => first | exact absurd hv (by simp) | (simp at hv)
/-- The arguments read behind a call as they did, where only new blocks were made. -/
theorem trodAll_ext {P : Program} (hl : laidOutB P = true) {W W' : World} (hb : Below W.heap.size W W') :
    ∀ {ts : List TypeId} {vs : List Value} {ds : List (DataW H)} {ps : List MemPlace}, (ts.all fun t => P.readableRec t && decide (t < P.types.size)) = true → DataW.TrodAll enc P W 0 (fun _ => true) true ts vs ds ps → (∀ x ∈ ps, x.block < W.heap.size) → DataW.TrodAll enc P W' 0 (fun b => decide (b < W.heap.size)) true ts vs ds ps
  | [], [], [], _, _, h, _ => h
  | t :: ts, v :: vs, d :: ds, ps, hr, h, hlt => by
    obtain ⟨p, q, h1, h2, e⟩ := h
    simp only [List.all_cons, Bool.and_eq_true, decide_eq_true_eq] at hr
    subst e
    exact ⟨p, q, Below.trod hl hr.1.1 hr.1.2 h1 hb (fun x hx => hlt x (by simp [hx])), trodAll_ext hl hb (by simpa using hr.2) h2 (fun x hx => hlt x (by simp [hx])), rfl⟩
  | [], _ :: _, _, _, _, h, _ => h.elim
  | [], [], _ :: _, _, _, h, _ => h.elim
  | _ :: _, [], _, _, _, h, _ => h.elim
  | _ :: _, _ :: _, [], _, _, h, _ => h.elim
/-- What is asked behind a call that hands a Bool back and makes only new blocks, whatever its arguments. -/
theorem post_grown {P : Program} {f : Func} {s : ChangeSpec} {apart fresh handsOn : Bool} {W W' : World} {args : Array Value} {v : Value} {ds gs : List (DataW H)} {before : List MemPlace}
    (hl : laidOutB P = true) (hr : (f.params.toList.all fun t => P.readableRec t && decide (t < P.types.size)) = true) (hvar : s.vars = [])
    (hW : DataW.Whole enc P f.params.toList s.vars apart W args.toList ds gs before)
    (hres : ∀ (b : Nat) (sp : Nat → Bool) (hd : Bool), DataW.TrodAll enc P W' b sp hd f.resultTypes.toList (v.resultList f.resultTypes.size) (s.fn H (ds ++ gs)).results [])
    (ha : (s.fn H (ds ++ gs)).args = ds) (hv : (s.fn H (ds ++ gs)).vars = [])
    (he : Ext W W') :
    s.post enc P f apart fresh handsOn false W args v W' := by
  have hlt := hW.lt
  have hW' := hW
  obtain ⟨p, q, hA, hV, rfl, hfz, hnd⟩ := hW
  refine ⟨ds, gs, _, [], p, [], hW', hres _ _ _, ?_, ?_, Below.frame he _, fun h => by cases h⟩
  · rw [ha]
    exact trodAll_ext hl he hr hA (fun x hx => hlt x (by simp [hx]))
  · rw [hvar, hv]; exact rfl
end Go.Proofs.YtopdgmchkoaeeaaDoor
