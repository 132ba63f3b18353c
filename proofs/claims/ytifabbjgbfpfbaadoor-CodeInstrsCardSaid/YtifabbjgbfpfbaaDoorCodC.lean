/- What each operator's operands name: the table. -/
import Derived.Test.YtifabbjgbfpfbaaDoorCodB
import Derived.Deep.WholeRow
import Derived.Laws.CopyOwn
namespace Go.Proofs.YtifabbjgbfpfbaaDoor
open Go.RowKit
set_option linter.unusedVariables false
set_option linter.unusedSimpArgs false

section
variable {P : Program} {ops : Array Oper} {rest : List Oper} {o : Oper} {a : Act} {w : World} {Q : Exit → Act → World → Prop}
theorem wpList_build_to (hgd : o.guard = none) (ty : TypeId) (parts : Array (Nat × Operand)) (ho : o.op = .build ty parts) (xs : Array (Nat × Value)) (hx : (parts.map fun x => (x.1, a.eval x.2)) = xs) (v : Value)
    (hrun : (Instr.build ty xs).run P w = .ok v w) (h : wpList P ops Q rest (a.put o.dst v) w) : wpList P ops Q (o :: rest) a w := by
  refine wpList_plain hgd fun K hK => ?_
  unfold Oper.wp execOp
  subst hx
  simp only [ho, Sem.run_bind, hrun, Sem.run_pure, Result.andThen_ok]
  exact hK _ _ h
theorem wpList_store_row (hgd : o.guard = none) (ty : TypeId) (x y : Operand) (ho : o.op = .store ty x y) (g : Nat) (hx : a.eval x = .pointer (some ⟨g, 0, none⟩)) (cs old : Array Value) (hy : a.eval y = .agg cs) (t : TypeId)
    (hg : w.heap[g]? = some (.cells old t (0, 0))) (hi : (P.info? ty).map (·.size) = some cs.size) (hs : old.size = cs.size) (h1 : cs.all (·.oneCell') = true)
    (h : wpList P ops Q rest (a.put o.dst undef) (w.setRow g cs)) : wpList P ops Q (o :: rest) a w := by
  refine wpList_plain hgd fun K hK => ?_
  unfold Oper.wp execOp
  simp only [ho, hx, hy, Instr.storeAt, Instr.sureAddr, Sem.run_bind, Sem.run_pure, Result.andThen_ok, run_storeVar_row w g t ty old cs hg hi hs h1]
  exact hK _ _ h
end
theorem Ext.setRow {a w : World} {g : Nat} (h : Ext a w) (hg : a.heap.size ≤ g) (cs : Array Value) : Ext a (w.setRow g cs) := below_setRow h hg cs
theorem Blk.setRow {w : World} {g : Nat} {t : TypeId} {cs : Array Value} (h : Blk w g t cs) (cs' : Array Value) : Blk (w.setRow g cs') g t cs' := by
  unfold Blk at h ⊢
  simp [World.setRow, Array.getElem?_modify, h]
theorem Blk.setRow_far {w : World} {g g' : Nat} {t : TypeId} {cs : Array Value} (h : Blk w g t cs) (hg : g' ≠ g) (cs' : Array Value) : Blk (w.setRow g' cs') g t cs := by
  unfold Blk at h ⊢
  simp [World.setRow, Array.getElem?_modify, h, hg]

/-- The table's 108 numbers, when the operators below m have been laid. -/
def arrI (m : Nat) : Array Int := ((List.range 36).flatMap fun op => if op = 0 ∨ (10 ≤ op ∧ op ≤ 23 ∧ m ≤ op) then [0, 0, 0] else [ka op, kb op, kc op]).toArray
def arrV (m : Nat) : Array Value := (arrI m).map (Value.int .i64)
def arrZ : Array Value := (arrI 0).map fun _ => Value.int .i64 0
theorem zeroA : (Tryd.prog.info? 70).map (fun i => (i.zero, i.size)) = some (some (.agg arrZ), 108) := by kernel_rfl
theorem arr_size (m : Nat) : (arrV m).size = (arrI m).size := by simp [arrV]
theorem arr_108 : ∀ k : Fin 25, (arrI k).size = 108 := by decide +kernel
theorem arr_next : ∀ k : Fin 14, arrI (10 + k + 1) = (((arrI (10 + k)).setIfInBounds ((10 + k) * 3) 1).setIfInBounds ((10 + k) * 3 + 1) 1).setIfInBounds ((10 + k) * 3 + 2) 1 := by decide +kernel
theorem arr_step (m : Nat) (h : 10 ≤ m) (h' : m < 24) : arrV (m + 1) = (((arrV m).setIfInBounds (m * 3) (.int .i64 1)).setIfInBounds (m * 3 + 1) (.int .i64 1)).setIfInBounds (m * 3 + 2) (.int .i64 1) := by
  have := arr_next ⟨m - 10, by omega⟩
  simp only [show 10 + (m - 10) = m by omega] at this
  simp only [arrV, this, Array.map_setIfInBounds]
theorem one_cells (m : Nat) : (arrV m).all (·.oneCell') = true := by
  rw [Array.all_eq_true']
  intro x hx
  simp only [arrV, Array.mem_map] at hx
  obtain ⟨n, _, rfl⟩ := hx
  rfl
set_option maxRecDepth 100000 in
set_option maxHeartbeats 2000000 in
theorem all_any (w : World) : Calls Tryd.prog 31 #[] w fun e w' => e = .returned (.agg (arrV 24)) ∧ Ext w w' := by
  obtain ⟨hz, hs⟩ := zero_of_info zeroA
  have HS := Lib.hid hs
  have hu := Tryd.underlying70
  have HU := Lib.hid hu
  clear hs hu
  go_enter Tryd.func31, Tryd.ntmps31
  go_wp2_with (first
    | (refine wpList_build_to rfl 70 _ rfl _ rfl (.agg (arrV 10)) (by kernel_rfl) ?_)
    | (refine wpList_store_row rfl 70 _ _ rfl (w.heap.size + 1) rfl (arrV 10) arrZ rfl _ (new_at (size_alloc _ _).symm _) (HS.out.trans (by rw [arr_size]; rfl)) (by kernel_rfl) (one_cells 10) ?_))
  go_loopw [2] (fun i wr => ∃ m : Nat, 10 ≤ m ∧ m ≤ 24 ∧ i = .int .i64 m ∧ Ext w wr ∧ Blk wr w.heap.size 70 arrZ ∧ Blk wr (w.heap.size + 1) 70 (arrV m)) (fun i _ => 24 - (intOf i).toNat)
  case atStart => exact ⟨10, by omega, by omega, rfl, (((Ext.refl w).alloc _).alloc _).setRow (by omega) _, ((Blk.new _ _ _).alloc _).setRow_far (by omega) _, Blk.setRow (new_at (size_alloc _ _).symm _) _⟩
  case round =>
    obtain ⟨m, hm, hm', rfl, he, hb0, hb1⟩ := hrel
    by_cases h1 : m < 24
    · have hz1 := arr_108 ⟨m, by omega⟩
      have e1 : m * 3 < (arrV m).size := by rw [arr_size]; simp only at hz1; omega
      have e2 : m * 3 + 1 < (arrV m).size := by rw [arr_size]; simp only at hz1; omega
      have e3 : m * 3 + 2 < (arrV m).size := by rw [arr_size]; simp only at hz1; omega
      obtain ⟨v1, c1⟩ : ∃ v, wr.cell? ⟨w.heap.size + 1, m * 3, none⟩ = some v := ⟨_, by rw [hb1.cell]; exact Array.getElem?_eq_getElem e1⟩
      obtain ⟨v2, c2⟩ : ∃ v, wr.cell? ⟨w.heap.size + 1, m * 3 + 1, none⟩ = some v := ⟨_, by rw [hb1.cell]; exact Array.getElem?_eq_getElem e2⟩
      obtain ⟨v3, c3⟩ : ∃ v, wr.cell? ⟨w.heap.size + 1, m * 3 + 2, none⟩ = some v := ⟨_, by rw [hb1.cell]; exact Array.getElem?_eq_getElem e3⟩
      have f1 : ∀ o, wr.frozen? ⟨w.heap.size + 1, o, none⟩ = false := fun o => hb1.frozen o
      have HE := Lib.hid (((he.setCell (p := ⟨w.heap.size + 1, m * 3, none⟩) (by simp) (.int .i64 1)).setCell (p := ⟨w.heap.size + 1, m * 3 + 1, none⟩) (by simp) (.int .i64 1)).setCell (p := ⟨w.heap.size + 1, m * 3 + 2, none⟩) (by simp) (.int .i64 1))
      have H0 := Lib.hid (((hb0.far (p := ⟨w.heap.size + 1, m * 3, none⟩) (by simp) (.int .i64 1)).far (p := ⟨w.heap.size + 1, m * 3 + 1, none⟩) (by simp) (.int .i64 1)).far (p := ⟨w.heap.size + 1, m * 3 + 2, none⟩) (by simp) (.int .i64 1))
      have H1 := Lib.hid (((hb1.set_ (m * 3) (.int .i64 1)).set_ (m * 3 + 1) (.int .i64 1)).set_ (m * 3 + 2) (.int .i64 1))
      rw [← arr_step m hm h1] at H1
      clear he hb0 hb1 hz1 e1 e2 e3
      go_wp2
      go_roundw
      case rel => exact ⟨m + 1, by omega, by omega, by go_num, HE.out, H0.out, H1.out⟩
      case measure => simp [intOf]; omega
    · obtain rfl : m = 24 := by omega
      go_wp2_with (first
        | (refine wpList_load_row rfl 70 _ rfl (w.heap.size + 1) rfl _ (arrV 24) _ _ hb1 HU.out rfl (HS.out.trans (by rw [arr_size]; rfl)) ?_)
        | (refine wpList_store_row rfl 70 _ _ rfl w.heap.size rfl (arrV 24) arrZ rfl _ hb0 (HS.out.trans (by rw [arr_size]; rfl)) (by kernel_rfl) (one_cells 24) ?_))
      exact bodyPost_ret (v := .agg (arrV 24)) (results_cell_row rfl _ _ w.heap.size _ (arrV 24) _ _ rfl (hb0.setRow _) HU.out rfl (HS.out.trans (by rw [arr_size]; rfl))) rfl ⟨rfl, he.setRow (Nat.le_refl _) _⟩
end Go.Proofs.YtifabbjgbfpfbaaDoor
