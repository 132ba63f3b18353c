/- Arguments of chapter 15 opened: a world of tables, numbers in a row. -/
import Derived.Test.YtfagldjhibdfhaaGreatDoorYE4
namespace Go.Proofs.YtfagldjhibdfhaaGreatDoor
open Go.ChangeShapes Go.WideShapes Go.ChangeAt Go.RowKit Go.Joins Go.Deep
set_option linter.unusedVariables false
set_option linter.unusedSimpArgs false
variable {H : Type} {enc : TypeId × Value → H} {w : World} {base : Nat} {sp : Nat → Bool} {hd : Bool}
theorem cell_lt {b o : Nat} {v : Value} (h : w.cell? ⟨b, o, none⟩ = some v) : b < w.heap.size := by
 rcases Nat.lt_or_ge b w.heap.size with h1 | h1
 ·exact h1
 ·simp [World.cell?, Array.getElem?_eq_none h1] at h
def ItemsIn (T : Tb) : Prop := T.length ≤ maxLen ∧ ∀ x ∈ T, VIn x.1 ∧ VIn x.2
theorem item_cells {n : Nat} {cs : List Value} {y : DataW H × List MemPlace} (hl : cs.length = 6) (h : DataW.trod enc Tryz.prog w base sp hd n 88 cs = some y) :
  ∃ x z : Vl, cs = [.int .i64 x.k, .int .i64 x.n, .string x.s, .int .i64 z.k, .int .i64 z.n, .string z.s] ∧ VIn x ∧ VIn z := by
 match cs, hl with
 | [c0, c1, c2, c3, c4, c5], _ =>
  obtain ⟨y0, y1, m, _, _, h0, h1⟩ := trod_struct2 Tryz.underlying88 h
  simp only [cellV, List.drop_zero, List.drop_succ_cons, List.take_succ_cons, List.take_zero] at h0 h1
  obtain ⟨x, rfl, rfl, rfl, hx⟩ := val_cells h0
  obtain ⟨z, rfl, rfl, rfl, hz⟩ := val_cells h1
  exact ⟨x, z, rfl, hx, hz⟩
instance : Inhabited (Vl × Vl) := ⟨(Vl.zero, Vl.zero)⟩
set_option maxRecDepth 100000 in
theorem items_open {n : Nat} {c : Value} {y : DataW H × List MemPlace} (h : DataW.trod enc Tryz.prog w 0 (fun _ => true) true n 86 [c] = some y) :
  ∃ (q : Option Addr) (k : Nat) (T : Tb), c = .slice q T.length k ∧ ItemsAt w q T ∧ ItemsIn T := by
 rcases open_slice Tryz.underlying86 h with ⟨e, _⟩ | ⟨a, len, cap, m, n', D, Pl, e, _, hlc, hcm, hm, _, hx⟩
 ·cases e
  exact ⟨none, 0, [], rfl, fun i x hx => by simp at hx, by decide, fun x hx => by simp at hx⟩
 ·cases e
  have hm' : m = cap := by rw [hm]; rfl
  subst hm'
  rw [cellIt] at hx
  have hone : ∀ i, i < len → ∃ z : Vl × Vl, (VIn z.1 ∧ VIn z.2) ∧ a = ⟨a.block, a.off, none⟩ ∧ ArgAt w a.block (a.off + i * 6) z.1 ∧ ArgAt w a.block (a.off + i * 6 + 3) z.2 := by
   intro i hi
   obtain ⟨cs0, h00, _⟩ := hx 0 (by omega)
   have hpl := head_plain h00 (by omega)
   obtain ⟨cs, hcs, ht⟩ := hx i (by omega)
   rw [hpl, add_at] at hcs
   obtain ⟨_, hl, hc⟩ := World.cells?_some hcs
   obtain ⟨x, z, rfl, hx1, hz1⟩ := item_cells hl ht
   refine ⟨(x, z), ⟨hx1, hz1⟩, hpl, ⟨?_, ?_, ?_⟩, ?_, ?_, ?_⟩
   ·have := hc 0 (by omega); rw [add_at] at this; exact this
   ·have := hc 1 (by omega); rw [add_at] at this; exact this
   ·have := hc 2 (by omega); rw [add_at] at this; exact this
   ·have := hc 3 (by omega); rw [add_at] at this; exact this
   ·have := hc 4 (by omega); rw [add_at] at this; exact this
   ·have := hc 5 (by omega); rw [add_at] at this; exact this
  obtain ⟨z, hz⟩ := choose_lt hone
  refine ⟨some a, m, (List.range len).map z, by simp, fun i x hx => ?_, by simp; omega, ?_⟩
  ·have hi : i < len := by
    have := (List.getElem?_eq_some_iff.1 hx).1
    simpa using this
   have he : x = z i := by
    simp [hi] at hx
    exact hx.symm
   subst he
   exact ⟨a.block, a.off, by rw [← (hz i hi).2.1], (hz i hi).2.2⟩
  ·intro x hx
   simp only [List.mem_map, List.mem_range] at hx
   obtain ⟨i, hi, rfl⟩ := hx
   exact (hz i hi).1
set_option maxRecDepth 100000 in
theorem tables_open {n : Nat} {c : Value} {y : DataW H × List MemPlace} (h : DataW.trod enc Tryz.prog w 0 (fun _ => true) true n 39 [c] = some y) :
  ∃ (q : Option Addr) (k : Nat) (ts : List Tb), c = .slice q ts.length k ∧ TablesAt w q ts ∧ ts.length ≤ maxLen ∧ (∀ T ∈ ts, ItemsIn T) := by
 rcases open_slice Tryz.underlying39 h with ⟨e, _⟩ | ⟨a, len, cap, m, n', D, Pl, e, _, hlc, hcm, hm, _, hx⟩
 ·cases e
  exact ⟨none, 0, [], rfl, fun i x hx => by simp at hx, by decide, fun x hx => by simp at hx⟩
 ·cases e
  have hm' : m = cap := by rw [hm]; rfl
  subst hm'
  rw [cellIs] at hx
  have hone : ∀ i, i < len → ∃ T : Tb, ItemsIn T ∧ a = ⟨a.block, a.off, none⟩ ∧ ∃ qi ci, w.cell? ⟨a.block, a.off + i, none⟩ = some (.slice qi T.length ci) ∧ ItemsAt w qi T := by
   intro i hi
   obtain ⟨cs0, h00, _⟩ := hx 0 (by omega)
   have hpl := head_plain h00 (by omega)
   obtain ⟨cs, hcs, ht⟩ := hx i (by omega)
   rw [hpl, add_at] at hcs
   obtain ⟨_, hl, hc⟩ := World.cells?_some hcs
   match cs, hl with
   | [v0], _ =>
    obtain ⟨q, k, T, rfl, hT, hin⟩ := items_open ht
    refine ⟨T, hin, hpl, q, k, ?_, hT⟩
    have := hc 0 (by omega); rw [add_at] at this; simpa using this
  obtain ⟨z, hz⟩ := choose_lt hone
  refine ⟨some a, m, (List.range len).map z, by simp, fun i T hT => ?_, by simp; omega, ?_⟩
  ·have hi : i < len := by
    have := (List.getElem?_eq_some_iff.1 hT).1
    simpa using this
   have he : T = z i := by
    simp [hi] at hT
    exact hT.symm
   subst he
   obtain ⟨_, hpl, qi, ci, hc, hit⟩ := hz i hi
   exact ⟨a.block, a.off, qi, ci, by rw [← hpl], cell_lt hc, hc, hit⟩
  ·intro x hx
   simp only [List.mem_map, List.mem_range] at hx
   obtain ⟨i, hi, rfl⟩ := hx
   exact (hz i hi).1
set_option maxRecDepth 100000 in
theorem world_open {v : Value} {d : DataW H} {p : List MemPlace} {r : Reach} {b0 : Nat} (hv : Value.okWide Tryz.prog w r b0 41 v) (h : DataW.Trod enc Tryz.prog w 0 (fun _ => true) true 41 v d p) :
  ∃ (c : Int) (q : Option Addr) (k : Nat) (ts : List Tb), v = .agg #[.int .i64 c, .slice q ts.length k] ∧ TablesAt w q ts ∧ in64 c ∧ ts.length ≤ maxLen ∧ (∀ T ∈ ts, ItemsIn T) := by
 obtain ⟨cs, rfl, hsz⟩ := okWide_struct Tryz.underlying41 hv
 obtain ⟨c0, c1, rfl⟩ := array2 (hsz.trans cellW)
 obtain ⟨fuel, hf⟩ := h
 obtain ⟨y0, y1, m, _, _, h0, h1⟩ := trod_struct2 Tryz.underlying41 hf
 simp only [Value.cells, cellN, cellIss, List.drop_zero, List.drop_succ_cons, List.take_succ_cons, List.take_zero] at h0 h1
 obtain ⟨t, e0, rfl, wt⟩ := DataW.trod_int uInt h0
 obtain ⟨q, k, ts, rfl, hT, hl, hin⟩ := tables_open h1
 obtain rfl := (List.cons.inj e0).1
 exact ⟨t, q, k, ts, rfl, hT, wf_in64 wt, hl, hin⟩
theorem WIn.mk' {c : Int} {ts : List Tb} (hc : in64 c) (hn : ts.length ≤ 1000000) (h : ∀ T ∈ ts, ItemsIn T) : WIn c ts :=
 ⟨hc, hn, fun T hT => ⟨Nat.le_trans (h T hT).1 (by decide), fun x hx => ⟨((h T hT).2 x hx).1.n, ((h T hT).2 x hx).2.n⟩⟩⟩
def IntsAt (w : World) (q : Option Addr) (l : List Int) : Prop := ∀ i x, l[i]? = some x → ∃ b o, q = some ⟨b, o, none⟩ ∧ b < w.heap.size ∧ w.cell? ⟨b, o + i, none⟩ = some (.int .i64 x)
theorem IntsAt.ext {w w' : World} {q : Option Addr} {l : List Int} (h : IntsAt w q l) (he : Ext w w') : IntsAt w' q l := fun i x hx => let ⟨b, o, e, hb, a⟩ := h i x hx; ⟨b, o, e, Nat.lt_of_lt_of_le hb he.le, (he.cells.1 b _ hb).trans a⟩
end Go.Proofs.YtfagldjhibdfhaaGreatDoor
