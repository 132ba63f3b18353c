/- Arguments of chapter 15 opened: values, rows of values, of numbers, worlds. -/
import Derived.Test.YtfagldjhibdfhaaGreatDoorYB6
import Derived.Test.YtfagldjhibdfhaaGreatDoorYA8
namespace Go.Proofs.YtfagldjhibdfhaaGreatDoor
open Go.ChangeShapes Go.WideShapes Go.ChangeAt Go.RowKit Go.Joins Go.Deep
set_option linter.unusedVariables false
set_option linter.unusedSimpArgs false

theorem wf_in64 {n : Int} (h : (Lit.int .i64 n).wf = true) : in64 n := by
  simp [Lit.wf, IntKind.min, IntKind.max, IntKind.signed, IntKind.bits] at h
  unfold in64
  omega
theorem cell_plain {w : World} {a : Addr} {v : Value} (h : w.cell? a = some v) : a.spot = none := by
  unfold World.cell? at h
  split at h
  · split at h
    · cases h
    · rename_i hs; simpa using hs
  · cases h
theorem plain_eq {a : Addr} (h : a.spot = none) : a = ⟨a.block, a.off, none⟩ := by cases a; simp at h; subst h; rfl
theorem add_at (b o k : Nat) : (⟨b, o, none⟩ : Addr).add k = ⟨b, o + k, none⟩ := by
  unfold Addr.add
  split
  · rename_i h; subst h; rfl
  · rfl
theorem head_plain {w : World} {base : Nat} {a : Addr} {n : Nat} {cs : List Value} (h : w.cells? base (a.add (0 * n)) n = some cs) (hn : 0 < n) : a = ⟨a.block, a.off, none⟩ := by
  obtain ⟨_, hl, hc⟩ := World.cells?_some h
  have h0 := hc 0 hn
  rw [List.getElem?_eq_getElem (by omega)] at h0
  have := cell_plain h0
  simp [Addr.add] at this
  exact plain_eq this
theorem cellV : Tryz.prog.cellsOf 26 = 3 := by kernel_rfl
theorem cellK : Tryz.prog.cellsOf 24 = 1 := by kernel_rfl
theorem cellI : Tryz.prog.cellsOf 2 = 1 := by kernel_rfl
theorem cellN : Tryz.prog.cellsOf 3 = 1 := by kernel_rfl
theorem cellS : Tryz.prog.cellsOf 9 = 1 := by kernel_rfl
theorem cellIt : Tryz.prog.cellsOf 88 = 6 := by kernel_rfl
theorem cellIs : Tryz.prog.cellsOf 86 = 1 := by kernel_rfl
theorem cellIss : Tryz.prog.cellsOf 39 = 1 := by kernel_rfl
theorem cellW : Tryz.prog.cellsOf 41 = 2 := by kernel_rfl
theorem cellP : Tryz.prog.cellsOf 43 = 5 := by kernel_rfl
theorem uI64 : Tryz.prog.underlying 2 = some (.int .i64) := by kernel_rfl
theorem uInt : Tryz.prog.underlying 3 = some (.int .i64) := by kernel_rfl
theorem uKnd : Tryz.prog.underlying 24 = some (.int .i64) := by kernel_rfl
theorem uStr : Tryz.prog.underlying 9 = some .string := by kernel_rfl
/-- What any value among the arguments holds to. -/
structure VIn (x : Vl) : Prop where
  k : in64 x.k
  n : in64 x.n
  s : x.s.size ≤ maxLen
instance : Inhabited Vl := ⟨Vl.zero⟩
variable {H : Type} {enc : TypeId × Value → H} {w : World} {base : Nat} {sp : Nat → Bool} {hd : Bool}
theorem val_cells {n : Nat} {c0 c1 c2 : Value} {y : DataW H × List MemPlace} (h : DataW.trod enc Tryz.prog w base sp hd n 26 [c0, c1, c2] = some y) :
    ∃ x : Vl, c0 = .int .i64 x.k ∧ c1 = .int .i64 x.n ∧ c2 = .string x.s ∧ VIn x := by
  obtain ⟨y0, y1, y2, m, rfl, _, h0, h1, h2⟩ := trod_struct3 Tryz.underlying26 h
  obtain ⟨k, e0, rfl, wk⟩ := DataW.trod_int uKnd h0
  obtain ⟨a, e1, rfl, wa⟩ := DataW.trod_int uI64 h1
  obtain ⟨s, e2, rfl, ws⟩ := DataW.trod_string uStr h2
  simp only [cellK, cellI, cellS, List.drop_zero, List.drop_succ_cons, List.take_succ_cons, List.take_zero, List.cons.injEq, and_true] at e0 e1 e2
  exact ⟨⟨k, a, s⟩, e0, e1, e2, wf_in64 wk, wf_in64 wa, ws⟩
theorem array3 {a : Array Value} (h : a.size = 3) : ∃ x y z, a = #[x, y, z] := by
  obtain ⟨l⟩ := a
  match l, h with
  | [x, y, z], _ => exact ⟨x, y, z, rfl⟩
theorem array5 {a : Array Value} (h : a.size = 5) : ∃ x y z u v, a = #[x, y, z, u, v] := by
  obtain ⟨l⟩ := a
  match l, h with
  | [x, y, z, u, v], _ => exact ⟨x, y, z, u, v, rfl⟩
theorem array2 {a : Array Value} (h : a.size = 2) : ∃ x y, a = #[x, y] := by
  obtain ⟨l⟩ := a
  match l, h with
  | [x, y], _ => exact ⟨x, y, rfl⟩
set_option maxRecDepth 100000 in
theorem val_open {v : Value} {d : DataW H} {p : List MemPlace} {r : Reach} {b0 : Nat} (hv : Value.okWide Tryz.prog w r b0 26 v) (h : DataW.Trod enc Tryz.prog w base sp hd 26 v d p) :
    ∃ x : Vl, v = x.v ∧ VIn x := by
  obtain ⟨cs, rfl, hsz⟩ := okWide_struct Tryz.underlying26 hv
  obtain ⟨c0, c1, c2, rfl⟩ := array3 (hsz.trans cellV)
  obtain ⟨fuel, hf⟩ := h
  obtain ⟨x, rfl, rfl, rfl, hx⟩ := val_cells (by simpa [Value.cells] using hf)
  exact ⟨x, rfl, hx⟩
set_option maxRecDepth 100000 in
theorem put_open {v : Value} {d : DataW H} {p : List MemPlace} {r : Reach} {b0 : Nat} (hv : Value.okWide Tryz.prog w r b0 43 v) (h : DataW.Trod enc Tryz.prog w base sp hd 43 v d p) :
    ∃ (t q : Int) (x : Vl), v = .agg #[.int .i64 t, .int .i64 q, .int .i64 x.k, .int .i64 x.n, .string x.s] ∧ in64 t ∧ in64 q ∧ VIn x := by
  obtain ⟨cs, rfl, hsz⟩ := okWide_struct Tryz.underlying43 hv
  obtain ⟨c0, c1, c2, c3, c4, rfl⟩ := array5 (hsz.trans cellP)
  obtain ⟨fuel, hf⟩ := h
  obtain ⟨y0, y1, y2, m, _, _, h0, h1, h2⟩ := trod_struct3 Tryz.underlying43 hf
  obtain ⟨t, e0, rfl, wt⟩ := DataW.trod_int uInt h0
  obtain ⟨q, e1, rfl, wq⟩ := DataW.trod_int uI64 h1
  simp only [Value.cells, cellN, cellI, cellV, List.drop_zero, List.drop_succ_cons, List.take_succ_cons, List.take_zero, List.cons.injEq, and_true] at e0 e1 h2
  obtain rfl := e0
  obtain rfl := e1
  obtain ⟨x, rfl, rfl, rfl, hx⟩ := val_cells (by simpa using h2)
  exact ⟨t, q, x, rfl, wf_in64 wt, wf_in64 wq, hx⟩
/-- Values as they lie, one behind the other. -/
def ValsAt (w : World) (q : Option Addr) (l : List Vl) : Prop := ∀ i x, l[i]? = some x → ∃ b o, q = some ⟨b, o, none⟩ ∧ ArgAt w b (o + i * 3) x
theorem ValsAt.args {w : World} {q : Option Addr} {l : List Vl} (h : ValsAt w q l) (hl : l.length ≤ 1048576) : ArgsAt w q l := ⟨hl, h⟩
theorem ValsAt.ext {w w' : World} {q : Option Addr} {l : List Vl} (h : ValsAt w q l) (he : Ext w w') : ValsAt w' q l := fun i x hx => let ⟨b, o, e, a⟩ := h i x hx; ⟨b, o, e, a.ext he⟩
set_option maxRecDepth 100000 in
theorem vals_open {v : Value} {d : DataW H} {p : List MemPlace} {r : Reach} {b0 : Nat} (hv : Value.okWide Tryz.prog w r b0 35 v) (h : DataW.Trod enc Tryz.prog w 0 (fun _ => true) true 35 v d p) :
    ∃ (q : Option Addr) (c : Nat) (l : List Vl), v = .slice q l.length c ∧ ValsAt w q l ∧ l.length ≤ maxLen ∧ (∀ x ∈ l, VIn x) ∧ (∀ a, q = some a → a.block < w.heap.size ∨ l = []) := by
  obtain ⟨a0, len0, cap0, rfl⟩ := okWide_slice Tryz.underlying35 hv
  obtain ⟨fuel, hf⟩ := h
  simp only [Value.cells] at hf
  rcases open_slice Tryz.underlying35 hf with ⟨e, _⟩ | ⟨a, len, cap, m, n', D, Pl, e, _, hlc, hcm, hm, _, hx⟩
  · cases e
    exact ⟨none, 0, [], rfl, fun i x hx => by simp at hx, by decide, fun x hx => by simp at hx, fun a ha => by cases ha⟩
  · cases e
    have hm' : m = cap0 := by rw [hm]; rfl
    subst hm'
    rw [cellV] at hx
    have hone : ∀ i, i < len0 → ∃ z : Vl, VIn z ∧ a = ⟨a.block, a.off, none⟩ ∧ ArgAt w a.block (a.off + i * 3) z := by
      intro i hi
      obtain ⟨cs0, h00, _⟩ := hx 0 (by omega)
      have hpl := head_plain h00 (by omega)
      obtain ⟨cs, hcs, ht⟩ := hx i (by omega)
      rw [hpl, add_at] at hcs
      obtain ⟨_, hl, hc⟩ := World.cells?_some hcs
      match cs, hl with
      | [v0, v1, v2], _ =>
        obtain ⟨x, rfl, rfl, rfl, hx⟩ := val_cells ht
        refine ⟨x, hx, hpl, ?_, ?_, ?_⟩
        · have := hc 0 (by omega); rw [add_at] at this; exact this
        · have := hc 1 (by omega); rw [add_at] at this; exact this
        · have := hc 2 (by omega); rw [add_at] at this; exact this
    obtain ⟨z, hz⟩ := choose_lt hone
    refine ⟨some a, m, (List.range len0).map z, by simp, fun i x hx => ?_, by simp; omega, ?_, fun b hb => ?_⟩
    · have hi : i < len0 := by
        have := (List.getElem?_eq_some_iff.1 hx).1
        simpa using this
      have he : x = z i := by
        simp [hi] at hx
        exact hx.symm
      subst he
      exact ⟨a.block, a.off, by rw [← (hz i hi).2.1], (hz i hi).2.2⟩
    · intro x hx
      simp only [List.mem_map, List.mem_range] at hx
      obtain ⟨i, hi, rfl⟩ := hx
      exact (hz i hi).1
    · rcases Nat.eq_zero_or_pos len0 with h0 | h0
      · subst h0; exact .inr rfl
      · refine .inl ?_
        rw [← Option.some.inj hb]
        exact (hz 0 h0).2.2.lt
end Go.Proofs.YtfagldjhibdfhaaGreatDoor
