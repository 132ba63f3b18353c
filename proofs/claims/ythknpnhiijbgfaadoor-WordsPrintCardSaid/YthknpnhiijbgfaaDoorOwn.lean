/- Rows of the call's own: bytes and texts that are appended to; bytes as a text. -/
import Derived.Test.YthknpnhiijbgfaaDoorBase
import Derived.Test.YthknpnhiijbgfaaDoorProg
import Derived.Laws.OwnMore
import Derived.OwnWalk
import Derived.Deep.LoopGhost
import Derived.Lib.AppendStr
import Derived.Lib.Strings
import Derived.StillTailTactics
import Derived.Lib.Walk
import Derived.Deep.RegionHeld3
import Derived.Deep.DrawnRows
namespace Go.Proofs.YthknpnhiijbgfaaDoor
open Go.RowKit
set_option linter.unusedVariables false
set_option linter.unusedSimpArgs false

theorem own_of_heap {w w' : World} {base : Nat} {e : TypeId} {s : Nat} {v : Value} {n : Nat} {xs : List Value} (h : w.ownsRow base e s v n xs) (hh : ∀ g, base ≤ g → g < w.heap.size → w'.heap[g]? = w.heap[g]?) : w'.ownsRow base e s v n xs := by
  obtain ⟨hl, h⟩ := h
  refine ⟨hl, ?_⟩
  rcases h with h | ⟨g, cap, cur, e1, hb, hc, h2⟩
  · exact .inl h
  · have hg : g < w.heap.size := by
      rcases Nat.lt_or_ge g w.heap.size with h | h
      · exact h
      · rw [Array.getElem?_eq_none h] at hc; cases hc
    exact .inr ⟨g, cap, cur, e1, hb, (hh g hb hg).trans hc, h2⟩
theorem own_ext {w w' : World} {base : Nat} {e : TypeId} {s : Nat} {v : Value} {n : Nat} {xs : List Value} (h : w.ownsRow base e s v n xs) (ho : Ext w w') : w'.ownsRow base e s v n xs :=
  own_of_heap h fun k hk hl => ho.block k hl
theorem own_set {w : World} {base g i : Nat} {u : Value} {e : TypeId} {s : Nat} {v : Value} {n : Nat} {xs : List Value} (h : w.ownsRow base e s v n xs) (hg : g < base) : (w.setCell ⟨g, i, none⟩ u).ownsRow base e s v n xs :=
  own_of_heap h fun k hk hl => Below.heap_setCell w _ u k (by show k ≠ g; omega)
theorem own_block {w : World} {base : Nat} {e : TypeId} {s : Nat} {v : Value} {n : Nat} {xs : List Value} (h : w.ownsRow base e s v n xs) : ∀ x, v.ownBlock = some x → base ≤ x := by
  intro x hx
  obtain ⟨_, ⟨rfl, _⟩ | ⟨g, cap, cur, rfl, hb, _⟩⟩ := h
  · cases hx
  · cases hx; exact hb
theorem Ext.grown {a b c : World} {row : Option Nat} (h : Ext a b) (hg : b.grownBy c row) (hr : ∀ x, row = some x → a.heap.size ≤ x) : Ext a c :=
  ⟨hg.os.trans h.os, hg.tape.trans h.tape, hg.output.trans h.output, Nat.le_trans h.size hg.size, fun k hk => (hg.block k (Nat.lt_of_lt_of_le hk h.size) (fun e => by have := hr k e.symm; omega)).trans (h.block k hk)⟩
theorem Blk.grown {w w' : World} {g : Nat} {t : TypeId} {cs : Array Value} {row : Option Nat} (h : Blk w g t cs) (hb : w.grownBy w' row) (hr : ∀ x, row = some x → ¬ g = x) : Blk w' g t cs :=
  (hb.block g h.lt (fun e => hr g e.symm rfl)).trans h
/-- An append whose run is known. -/
theorem wpList_append_run {P : Program} {w : World} {ops : Array Oper} {rest : List Oper} {o : Oper} {a : Act} {Q : Exit → Act → World → Prop} (hgd : o.guard = none) (s x : Operand) (t : TypeId)
    (ho : o.op = .call { callee := .builtin .append, args := #[s, x], argTypes := #[t, t] }) (v x' v' : Value) (w' : World) (hs : a.eval s = v) (hx : a.eval x = x')
    (hrun : (Builtin.append_ #[t, t] o.type #[v, x']).run P w = .ok v' w') (h : wpList P ops Q rest (a.put o.dst v') w') : wpList P ops Q (o :: rest) a w := by
  refine wpList_plain hgd fun K hK => ?_
  unfold Oper.wp execOp
  simp only [ho, resolve, invoke, builtin, Sem.run_bind, Sem.run_pure, Result.andThen_ok, List.map_toArray, List.map_cons, List.map_nil, hs, hx, hrun]
  exact hK _ _ h
theorem infoU8 : (Tryd.prog.info? 5).map (fun i => (i.zero, i.size, i.bytes)) = some (some (.int .u8 0), 1, 1) := by kernel_rfl
theorem byte_one (l : List UInt8) : ∀ v ∈ Lib.byteCells l, v.oneCell' = true := by
  intro v hv
  simp only [Lib.byteCells, List.mem_map] at hv
  obtain ⟨b, _, rfl⟩ := hv
  rfl
/-- Bytes in a row of the call's own, from block B on. -/
def OwnB (w : World) (B : Nat) (v : Value) (l : List UInt8) : Prop := w.ownsRow B 5 1 v l.length (Lib.byteCells l)
theorem OwnB.nil (w : World) (B : Nat) : OwnB w B (.slice none 0 0) [] := World.ownsRow_nil _ _ _ _
theorem OwnB.ext {w w' : World} {B : Nat} {v : Value} {l : List UInt8} (h : OwnB w B v l) (he : Ext w w') : OwnB w' B v l := own_ext h he
theorem OwnB.slice {w : World} {B : Nat} {v : Value} {l : List UInt8} (h : OwnB w B v l) : ∃ q c, v = .slice q l.length c := by
  rcases h.2 with ⟨rfl, h0⟩ | ⟨g, cap, cur, rfl, _⟩
  · exact ⟨none, 0, by rw [h0]⟩
  · exact ⟨_, _, rfl⟩
theorem nums_str (l : List UInt8) : strOfNums (l.map fun c => (c.toNat : Int)) = ⟨l.toArray⟩ := by
  unfold strOfNums
  congr 2
  rw [List.map_map]
  conv => rhs; rw [← List.map_id l]
  exact List.map_congr_left fun c _ => by simp
theorem OwnB.conv {w : World} {B : Nat} {v : Value} {l : List UInt8} (h : OwnB w B v l) : (convert 52 9 v).run Tryd.prog w = .ok (.string ⟨l.toArray⟩) w := by
  rcases h.2 with ⟨rfl, h0⟩ | ⟨g, cap, cur, rfl, hb, hh, _⟩
  · have hl := List.eq_nil_of_length_eq_zero h0
    subst hl
    rw [run_convert_bytes_string w 52 9 5 _ 0 0 Tryd.underlying52 Tryd.underlying5 Tryd.underlying9]
    rfl
  · have e := run_convert_bytes_arg (P := Tryd.prog) w 52 5 Tryd.underlying52 Tryd.underlying5 g 0 l.length cap (l.map fun x => (x.toNat : Int)) (by simp) (fun k hk => by
      have h1 := World.ownsRow.cells h (g := g) rfl k (.int .u8 (l[k].toNat : Int)) (by simp [Lib.byteCells, List.getElem?_map, List.getElem?_eq_getElem hk])
      have hadd : (⟨g, 0, none⟩ : Addr).add k = ⟨g, 0 + k, none⟩ := by unfold Addr.add; split <;> simp_all
      rw [hadd] at h1
      rw [List.getD_eq_getElem?_getD, List.getElem?_map, List.getElem?_eq_getElem hk]
      exact h1) 9 Tryd.underlying9
    rw [nums_str] at e
    exact e
/-- A row behind an append: what it holds, and that all else is as it was. -/
structure AppB (w : World) (B : Nat) (v : Value) (l : List UInt8) (w' : World) (v' : Value) : Prop where
  own : OwnB w' B v' l
  grow : w.grownBy w' v.ownBlock
  row : ∀ x, v.ownBlock = some x → B ≤ x
theorem AppB.ext {a w w' : World} {B : Nat} {v v' : Value} {l : List UInt8} (h : AppB w B v l w' v') (he : Ext a w) (hB : a.heap.size ≤ B) : Ext a w' :=
  he.grown h.grow fun x hx => Nat.le_trans hB (h.row x hx)
/-- Bytes of a new block behind a row. -/
theorem app_lit (w : World) (ty : TypeId) (B : Nat) (v : Value) (l m : List UInt8) (h : OwnB w B v l) (hB : B ≤ w.heap.size) (hlen : l.length + m.length ≤ 140737488355328) :
    ∃ v' w', (Builtin.append_ #[52, 52] ty #[v, .slice (some ⟨w.heap.size, 0, none⟩) m.length m.length]).run Tryd.prog (w.alloc (.cells (Lib.byteCells m).toArray 5)) = .ok v' w' ∧ AppB (w.alloc (.cells (Lib.byteCells m).toArray 5)) B v (l ++ m) w' v' := by
  obtain ⟨i0, hi, hz0, hz1, hz2⟩ := info_parts infoU8
  have h' : OwnB (w.alloc (.cells (Lib.byteCells m).toArray 5)) B v l := h.ext ((Ext.refl w).alloc _)
  obtain ⟨v', w', h1, h2, h3, _⟩ := run_append_own (P := Tryd.prog) _ B 52 ty 5 i0 (.int .u8 0) 1 1 Tryd.underlying52 hi hz0 hz1 hz2 rfl (by omega) v l.length (Lib.byteCells l) h' ⟨w.heap.size, 0, none⟩ m.length m.length (Lib.byteCells m) (by rw [Lib.byteCells_length]; omega)
    (fun j u hu => by
      have hadd : (⟨w.heap.size, 0, none⟩ : Addr).add j = ⟨w.heap.size, 0 + j, none⟩ := by unfold Addr.add; split <;> simp_all
      rw [hadd, (Blk.new w 5 (Lib.byteCells m).toArray).cell, Nat.zero_add]
      simpa using hu) (byte_one m) (by unfold maxLen; omega) (by omega) (by rw [size_alloc]; omega)
  exact ⟨v', w', h1, by unfold OwnB; rw [Lib.byteCells_append, List.length_append]; exact h2, h3, own_block h'⟩
end Go.Proofs.YthknpnhiijbgfaaDoor
