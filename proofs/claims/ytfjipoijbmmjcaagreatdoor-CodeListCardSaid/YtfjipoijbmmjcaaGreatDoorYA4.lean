/- What each operator's operands name: the table. May an instruction be: the code's own answer. -/
import Derived.Test.YtfjipoijbmmjcaaGreatDoorYCodB
import Derived.Deep.WholeRow
import Derived.Laws.CopyOwn
import Derived.Test.YtfjipoijbmmjcaaGreatDoorYA1
import Derived.Deep.DeepCutAuto
namespace Go.Proofs.YtfjipoijbmmjcaaGreatDoor
open Go.RowKit
set_option linter.unusedVariables false
set_option linter.unusedSimpArgs false

section
variable {P : Program} {ops : Array Oper} {rest : List Oper} {o : Oper} {a : Act} {w : World} {Q : Exit → Act → World → Prop}
theorem wpList_build_to (hgd : o.guard = none) (ty : TypeId) (parts : Array (Nat × Operand)) (ho : o.op = .build ty parts) (xs : Array (Nat × Value)) (hx : (parts.map fun x => (x.1, a.eval x.2)) = xs) (v : Value)
  (hrun : (Instr.build ty xs).run P w = .ok v w) (h : wpList P ops Q rest (a.put o.dst v) w) : wpList P ops Q (o :: rest) a w := by
 refine wpList_plain hgd fun K hK => ?_
 unfold Oper.wp execOp
 subst hx
 simp only [ho, Sem.run_bind, hrun, Sem.run_pure, Result.andThen_ok]
 exact hK _ _ h
theorem wpList_store_row (hgd : o.guard = none) (ty : TypeId) (x y : Operand) (ho : o.op = .store ty x y) (g : Nat) (hx : a.eval x = .pointer (some ⟨g, 0, none⟩)) (cs old : Array Value) (hy : a.eval y = .agg cs) (t : TypeId)
  (hg : w.heap[g]? = some (.cells old t (0, 0))) (hi : (P.info? ty).map (·.size) = some cs.size) (hs : old.size = cs.size) (h1 : cs.all (·.oneCell') = true)
  (h : wpList P ops Q rest (a.put o.dst undef) (w.setRow g cs)) : wpList P ops Q (o :: rest) a w := by
 refine wpList_plain hgd fun K hK => ?_
 unfold Oper.wp execOp
 simp only [ho, hx, hy, Instr.storeAt, Instr.sureAddr, Sem.run_bind, Sem.run_pure, Result.andThen_ok, run_storeVar_row w g t ty old cs hg hi hs h1]
 exact hK _ _ h
end
theorem Ext.setRow {a w : World} {g : Nat} (h : Ext a w) (hg : a.heap.size ≤ g) (cs : Array Value) : Ext a (w.setRow g cs) := below_setRow h hg cs
theorem Blk.setRow {w : World} {g : Nat} {t : TypeId} {cs : Array Value} (h : Blk w g t cs) (cs' : Array Value) : Blk (w.setRow g cs') g t cs' := by
 unfold Blk at h ⊢
 simp [World.setRow, Array.getElem?_modify, h]
theorem Blk.setRow_far {w : World} {g g' : Nat} {t : TypeId} {cs : Array Value} (h : Blk w g t cs) (hg : g' ≠ g) (cs' : Array Value) : Blk (w.setRow g' cs') g t cs := by
 unfold Blk at h ⊢
 simp [World.setRow, Array.getElem?_modify, h, hg]
def arrI (m : Nat) : Array Int := ((List.range 36).flatMap fun op => if op = 0 ∨ (10 ≤ op ∧ op ≤ 23 ∧ m ≤ op) then [0, 0, 0] else [ka op, kb op, kc op]).toArray
def arrV (m : Nat) : Array Value := (arrI m).map (Value.int .i64)
def arrZ : Array Value := (arrI 0).map fun _ => Value.int .i64 0
theorem zeroA : (Tryz.prog.info? 90).map (fun i => (i.zero, i.size)) = some (some (.agg arrZ), 108) := by kernel_rfl
theorem arr_size (m : Nat) : (arrV m).size = (arrI m).size := by simp [arrV]
theorem arr_108 : ∀ k : Fin 25, (arrI k).size = 108 := by decide +kernel
theorem arr_next : ∀ k : Fin 14, arrI (10 + k + 1) = (((arrI (10 + k)).setIfInBounds ((10 + k) * 3) 1).setIfInBounds ((10 + k) * 3 + 1) 1).setIfInBounds ((10 + k) * 3 + 2) 1 := by decide +kernel
theorem arr_step (m : Nat) (h : 10 ≤ m) (h' : m < 24) : arrV (m + 1) = (((arrV m).setIfInBounds (m * 3) (.int .i64 1)).setIfInBounds (m * 3 + 1) (.int .i64 1)).setIfInBounds (m * 3 + 2) (.int .i64 1) := by
 have := arr_next ⟨m - 10, by omega⟩
 simp only [show 10 + (m - 10) = m by omega] at this
 simp only [arrV, this, Array.map_setIfInBounds]
theorem one_cells (m : Nat) : (arrV m).all (·.oneCell') = true := by
 rw [Array.all_eq_true']
 intro x hx
 simp only [arrV, Array.mem_map] at hx
 obtain ⟨n, _, rfl⟩ := hx
 rfl
set_option maxRecDepth 100000 in
set_option maxHeartbeats 2000000 in
theorem all_any (w : World) : Calls Tryz.prog 48 #[] w fun e w' => e = .returned (.agg (arrV 24)) ∧ Ext w w' := by
 obtain ⟨hz, hs⟩ := zero_of_info zeroA
 have HS := Lib.hid hs
 have hu := Tryz.underlying90
 have HU := Lib.hid hu
 clear hs hu
 go_enter Tryz.func48, Tryz.ntmps48
 go_wp2_with (first
  | (refine wpList_build_to rfl 90 _ rfl _ rfl (.agg (arrV 10)) (by kernel_rfl) ?_)
  | (refine wpList_store_row rfl 90 _ _ rfl (w.heap.size + 1) rfl (arrV 10) arrZ rfl _ (new_at (size_alloc _ _).symm _) (HS.out.trans (by rw [arr_size]; rfl)) (by kernel_rfl) (one_cells 10) ?_))
 go_loopw [2] (fun i wr => ∃ m : Nat, 10 ≤ m ∧ m ≤ 24 ∧ i = .int .i64 m ∧ Ext w wr ∧ Blk wr w.heap.size 90 arrZ ∧ Blk wr (w.heap.size + 1) 90 (arrV m)) (fun i _ => 24 - (intOf i).toNat)
 case atStart => exact ⟨10, by omega, by omega, rfl, (((Ext.refl w).alloc _).alloc _).setRow (by omega) _, ((Blk.new _ _ _).alloc _).setRow_far (by omega) _, Blk.setRow (new_at (size_alloc _ _).symm _) _⟩
 case round =>
  obtain ⟨m, hm, hm', rfl, he, hb0, hb1⟩ := hrel
  by_cases h1 : m < 24
  ·have hz1 := arr_108 ⟨m, by omega⟩
   have e1 : m * 3 < (arrV m).size := by rw [arr_size]; simp only at hz1; omega
   have e2 : m * 3 + 1 < (arrV m).size := by rw [arr_size]; simp only at hz1; omega
   have e3 : m * 3 + 2 < (arrV m).size := by rw [arr_size]; simp only at hz1; omega
   obtain ⟨v1, c1⟩ : ∃ v, wr.cell? ⟨w.heap.size + 1, m * 3, none⟩ = some v := ⟨_, by rw [hb1.cell]; exact Array.getElem?_eq_getElem e1⟩
   obtain ⟨v2, c2⟩ : ∃ v, wr.cell? ⟨w.heap.size + 1, m * 3 + 1, none⟩ = some v := ⟨_, by rw [hb1.cell]; exact Array.getElem?_eq_getElem e2⟩
   obtain ⟨v3, c3⟩ : ∃ v, wr.cell? ⟨w.heap.size + 1, m * 3 + 2, none⟩ = some v := ⟨_, by rw [hb1.cell]; exact Array.getElem?_eq_getElem e3⟩
   have f1 : ∀ o, wr.frozen? ⟨w.heap.size + 1, o, none⟩ = false := fun o => hb1.frozen o
   have HE := Lib.hid (((he.setCell (p := ⟨w.heap.size + 1, m * 3, none⟩) (by simp) (.int .i64 1)).setCell (p := ⟨w.heap.size + 1, m * 3 + 1, none⟩) (by simp) (.int .i64 1)).setCell (p := ⟨w.heap.size + 1, m * 3 + 2, none⟩) (by simp) (.int .i64 1))
   have H0 := Lib.hid (((hb0.far (p := ⟨w.heap.size + 1, m * 3, none⟩) (by simp) (.int .i64 1)).far (p := ⟨w.heap.size + 1, m * 3 + 1, none⟩) (by simp) (.int .i64 1)).far (p := ⟨w.heap.size + 1, m * 3 + 2, none⟩) (by simp) (.int .i64 1))
   have H1 := Lib.hid (((hb1.set_ (m * 3) (.int .i64 1)).set_ (m * 3 + 1) (.int .i64 1)).set_ (m * 3 + 2) (.int .i64 1))
   rw [← arr_step m hm h1] at H1
   clear he hb0 hb1 hz1 e1 e2 e3
   go_wp2
   go_roundw
   case rel => exact ⟨m + 1, by omega, by omega, by go_num, HE.out, H0.out, H1.out⟩
   case measure => simp [intOf]; omega
  ·obtain rfl : m = 24 := by omega
   go_wp2_with (first
    | (refine wpList_load_row rfl 90 _ rfl (w.heap.size + 1) rfl _ (arrV 24) _ _ hb1 HU.out rfl (HS.out.trans (by rw [arr_size]; rfl)) ?_)
    | (refine wpList_store_row rfl 90 _ _ rfl w.heap.size rfl (arrV 24) arrZ rfl _ hb0 (HS.out.trans (by rw [arr_size]; rfl)) (by kernel_rfl) (one_cells 24) ?_))
   exact bodyPost_ret (v := .agg (arrV 24)) (results_cell_row rfl _ _ w.heap.size _ (arrV 24) _ _ rfl (hb0.setRow _) HU.out rfl (HS.out.trans (by rw [arr_size]; rfl))) rfl ⟨rfl, he.setRow (Nat.le_refl _) _⟩
end Go.Proofs.YtfjipoijbmmjcaaGreatDoor
namespace Go.Proofs.YtfjipoijbmmjcaaGreatDoor
open Go.RowKit
set_option linter.unusedVariables false
set_option linter.unusedSimpArgs false

structure Lies (w : World) (vp vi vt : Value) (p : Pg) : Prop where
 ps : ProtosAt w vp p.ps
 is : IntsAt vi p.ni
 ts : TextsAt w vt p.ts
theorem Lies.ext {w w' : World} {vp vi vt : Value} {p : Pg} (h : Lies w vp vi vt p) (he : Ext w w') : Lies w' vp vi vt p := ⟨h.ps.ext he, h.is, h.ts.ext he⟩
theorem oper_any (p : Pg) (f : Pr) (vp vi vt cv : Value) (k n : Int) (v : Bool) (hv : opd p f k n = v) (w : World) (h0 : 0 ≤ k) (h7 : k ≤ 7) (h : Lies w vp vi vt p) (hc : CodeAt w cv f.cd) :
  Calls Tryz.prog 49 #[.agg #[vp, vi, vt, .int .i64 f.pa, .int .i64 f.rg, cv], .int .i64 k, .int .i64 n] w fun e w' => e = .returned (.bool v) ∧ Ext w w' := by
 subst hv
 obtain ⟨qp, cp, rfl, hp⟩ := h.ps
 obtain ⟨qi, ci, rfl⟩ := h.is
 have hk : k = 0 ∨ k = 1 ∨ k = 2 ∨ k = 3 ∨ k = 4 ∨ k = 5 ∨ k = 6 ∨ k = 7 := by omega
 rcases hk with rfl | rfl | rfl | rfl | rfl | rfl | rfl | rfl
 ·exact oper_0 f _ _ _ _ n w
 ·exact oper_1 f _ _ _ _ n w
 ·obtain ⟨qc, cc, rfl, _⟩ := hc
  exact oper_2 f _ _ _ qc _ cc n w
 ·exact oper_3 f _ _ _ qi _ ci n w
 ·obtain ⟨qt, ct, rfl, _⟩ := h.ts
  exact oper_4 f _ _ _ qt _ ct n w
 ·exact oper_5 f _ _ _ qp _ cp n w
 ·exact oper_6 f _ _ _ _ n w p.ts h.ts
 ·exact oper_7 f _ _ _ _ n w
theorem idx_all (op : Int) (h1 : 1 ≤ op) (h2 : op ≤ 35) (W : World) : (Instr.index 90 (.agg (arrV 24)) (.int .i64 op)).run Tryz.prog W = .ok (.agg #[.int .i64 (ka op), .int .i64 (kb op), .int .i64 (kc op)]) W := by
 have hk : op = 1 ∨ op = 2 ∨ op = 3 ∨ op = 4 ∨ op = 5 ∨ op = 6 ∨ op = 7 ∨ op = 8 ∨ op = 9 ∨ op = 10 ∨ op = 11 ∨ op = 12 ∨ op = 13 ∨ op = 14 ∨ op = 15 ∨ op = 16 ∨ op = 17 ∨ op = 18 ∨ op = 19 ∨ op = 20 ∨ op = 21 ∨ op = 22 ∨ op = 23 ∨ op = 24 ∨ op = 25 ∨ op = 26 ∨ op = 27 ∨ op = 28 ∨ op = 29 ∨ op = 30 ∨ op = 31 ∨ op = 32 ∨ op = 33 ∨ op = 34 ∨ op = 35 := by omega
 rcases hk with rfl | rfl | rfl | rfl | rfl | rfl | rfl | rfl | rfl | rfl | rfl | rfl | rfl | rfl | rfl | rfl | rfl | rfl | rfl | rfl | rfl | rfl | rfl | rfl | rfl | rfl | rfl | rfl | rfl | rfl | rfl | rfl | rfl | rfl | rfl
 all_goals (show (_ : Result Value) = _; kernel_rfl)
theorem newB {w0 w1 : World} {t : TypeId} {cs : Array Value} (h : Ext (w0.alloc (.cells cs t)).drew w1) : Blk w1 w0.heap.size t cs := (Blk.new w0 t cs).drew.ext h
def NamesAt (w0 : World) (op : Int) (v : Value) (wx : World) : Prop := ∃ B, v = .pointer (some ⟨B, 0, none⟩) ∧ Ext w0 wx ∧ Blk wx B 89 #[.int .i64 (ka op), .int .i64 (kb op), .int .i64 (kc op)]
theorem names1 {w0 w1 : World} (op : Int) (he : Ext w0.drew w1) : NamesAt w0 op (.pointer (some ⟨w1.heap.size, 0, none⟩)) (w1.alloc (.cells #[.int .i64 (ka op), .int .i64 (kb op), .int .i64 (kc op)] 89)) :=
 ⟨_, rfl, (Ext.trans (Ext.refl w0).drew he).alloc _, Blk.new _ _ _⟩
theorem names2 {w0 w1 : World} (op : Int) (cs : Array Value) (x y z : Value) (hcs : cs = #[x, y, z]) (he : Ext (w0.alloc (.cells cs 89)).drew w1) :
  NamesAt w0 op (.pointer (some ⟨w0.heap.size, 0, none⟩)) (((w1.setCell ⟨w0.heap.size, 0, none⟩ (.int .i64 (ka op))).setCell ⟨w0.heap.size, 1, none⟩ (.int .i64 (kb op))).setCell ⟨w0.heap.size, 2, none⟩ (.int .i64 (kc op))) := by
 subst hcs
 exact ⟨_, rfl, (((Ext.trans ((Ext.refl w0).alloc _).drew he).setCell (Nat.le_refl _) _).setCell (Nat.le_refl _) _).setCell (Nat.le_refl _) _, (((newB he).set_ 0 _).set_ 1 _).set_ 2 _⟩
theorem ka_in (op : Int) : 0 ≤ ka op ∧ ka op ≤ 7 := by unfold ka; repeat' split <;> omega
theorem kb_in (op : Int) : 0 ≤ kb op ∧ kb op ≤ 7 := by unfold kb; repeat' split <;> omega
theorem kc_in (op : Int) : 0 ≤ kc op ∧ kc op ≤ 7 := by unfold kc; repeat' split <;> omega
structure Bounds (p : Pg) (f : Pr) : Prop where
 r0 : 0 ≤ f.rg
 r1 : f.rg ≤ 500
 pa : ∀ g ∈ p.ps, 0 ≤ g.pa ∧ g.pa ≤ 500
theorem opd_reg {p : Pg} {f : Pr} {n : Int} (h : opd p f 1 n = true) : 0 ≤ n ∧ n < f.rg := by simpa [opd] using h
theorem opd_fun {p : Pg} {f : Pr} {n : Int} (h : opd p f 5 n = true) : 0 ≤ n ∧ n < p.ps.length := by simpa [opd] using h
theorem opd_cnt {p : Pg} {f : Pr} {n : Int} (h : opd p f 7 n = true) : 0 ≤ n ∧ n ≤ f.rg := by simpa [opd] using h
theorem ins_a {p : Pg} {f : Pr} {i : Ins} (ha : opd p f (ka i.op) i.a = false) : insB p f i = false := by simp [insB, ha]
theorem ins_b {p : Pg} {f : Pr} {i : Ins} (hb : opd p f (kb i.op) i.b = false) : insB p f i = false := by simp [insB, hb]
theorem ins_c {p : Pg} {f : Pr} {i : Ins} (hc : opd p f (kc i.op) i.c = false) : insB p f i = false := by simp [insB, hc]
theorem ins_x {p : Pg} {f : Pr} {i : Ins} (h1 : 1 ≤ i.op) (h2 : i.op ≤ 35) (ha : opd p f (ka i.op) i.a = true) (hb : opd p f (kb i.op) i.b = true) (hc : opd p f (kc i.op) i.c = true) : insB p f i = extra p f i := by simp [insB, ha, hb, hc, h1, h2]
abbrev insV (i : Ins) : Value := .agg #[.int .i64 i.op, .int .i64 i.a, .int .i64 i.b, .int .i64 i.c]
abbrev askV (vp vi vt : Value) (f : Pr) (cv : Value) : Value := .agg #[vp, vi, vt, .int .i64 f.pa, .int .i64 f.rg, cv]
set_option maxRecDepth 100000 in
set_option maxHeartbeats 2000000 in
theorem instr_no (vp vi vt cv : Value) (f : Pr) (i : Ins) (w : World) (h : (decide (1 ≤ i.op) && decide (i.op ≤ 35)) = false) :
  Calls Tryz.prog 30 #[askV vp vi vt f cv, insV i] w fun e w' => e = .returned (.bool false) ∧ Ext w w' := by
 by_cases h1 : i.op < 1
 ·have h1' : decide (i.op < 1) = true := decide_eq_true h1
  go_enter Tryz.func30, Tryz.ntmps30
  go_wp2_with fail
  go_ret
  exact ⟨rfl, ((Ext.refl w).alloc _).alloc _⟩
 ·have h1' : decide (i.op < 1) = false := decide_eq_false h1
  have h2' : decide (35 < i.op) = true := by
   rw [decide_eq_true (by omega), Bool.true_and] at h
   simpa using h
  go_enter Tryz.func30, Tryz.ntmps30
  go_wp2_with fail
  go_ret
  exact ⟨rfl, ((Ext.refl w).alloc _).alloc _⟩
set_option maxRecDepth 100000 in
set_option maxHeartbeats 4000000 in
theorem instr_yes (p : Pg) (vp vi vt cv : Value) (f : Pr) (i : Ins) (w : World) (h1 : 1 ≤ i.op) (h35 : i.op ≤ 35) (h : Lies w vp vi vt p) (hc : CodeAt w cv f.cd) (hb : Bounds p f) :
  Calls Tryz.prog 30 #[askV vp vi vt f cv, insV i] w fun e w' => e = .returned (.bool (insB p f i)) ∧ Ext w w' := by
 have h1' : decide (i.op < 1) = false := decide_eq_false (by omega)
 have h2' : decide (35 < i.op) = false := decide_eq_false (by omega)
 have hx := idx_all i.op h1 h35
 go_enter Tryz.func30, Tryz.ntmps30
 go_upto_region 3 with fail
 generalize hw0' : (w.alloc (.cells #[vp, vi, vt, .int .i64 f.pa, .int .i64 f.rg, cv] 68)).alloc (.cells #[.int .i64 i.op, .int .i64 i.a, .int .i64 i.b, .int .i64 i.c] 42) = w0
 have hw0 := hw0'.symm
 clear hw0'
 have k0 : Ext w w0 := hw0 ▸ ((Ext.refl w).alloc _).alloc _
 have l0 : w.heap.size < w0.heap.size := by rw [hw0, size_alloc, size_alloc]; omega
 have l1 : w.heap.size + 1 < w0.heap.size := by rw [hw0, size_alloc, size_alloc]; omega
 have A0 : w0.cell? ⟨w.heap.size, 0, none⟩ = some (vp) := by rw [hw0]; go_simp
 have A1 : w0.cell? ⟨w.heap.size, 1, none⟩ = some (vi) := by rw [hw0]; go_simp
 have A2 : w0.cell? ⟨w.heap.size, 2, none⟩ = some (vt) := by rw [hw0]; go_simp
 have A3 : w0.cell? ⟨w.heap.size, 3, none⟩ = some (.int .i64 f.pa) := by rw [hw0]; go_simp
 have A4 : w0.cell? ⟨w.heap.size, 4, none⟩ = some (.int .i64 f.rg) := by rw [hw0]; go_simp
 have A5 : w0.cell? ⟨w.heap.size, 5, none⟩ = some (cv) := by rw [hw0]; go_simp
 have I0 : w0.cell? ⟨w.heap.size + 1, 0, none⟩ = some (.int .i64 i.op) := by rw [hw0]; go_simp
 have I1 : w0.cell? ⟨w.heap.size + 1, 1, none⟩ = some (.int .i64 i.a) := by rw [hw0]; go_simp
 have I2 : w0.cell? ⟨w.heap.size + 1, 2, none⟩ = some (.int .i64 i.b) := by rw [hw0]; go_simp
 have I3 : w0.cell? ⟨w.heap.size + 1, 3, none⟩ = some (.int .i64 i.c) := by rw [hw0]; go_simp
 clear hw0
 go_cut [5] (fun s5 wx => NamesAt w0 i.op s5 wx)
 case first =>
  clear A0 A1 A2 A3 A4 A5 I1 I2 I3
  go_region_with (go_at_call 48; refine (all_any _).mono ?_; rintro e w1 ⟨rfl, he⟩; have c6 := he.cell (a := ⟨w.heap.size + 1, 0, none⟩) (v := .int .i64 i.op) (by go_simp); have l2 : w.heap.size + 1 < w1.heap.size := (by first | exact Nat.lt_of_lt_of_le l1 he.le | exact Nat.lt_of_lt_of_le (Nat.lt_succ_of_lt l1) (Nat.le_trans (Nat.le_of_eq (size_alloc _ _).symm) he.le)); try (have d0 : w1.cell? ⟨w0.heap.size, 0, none⟩ = some (.int .i64 0) := (newB he).cell 0; have d1 : w1.cell? ⟨w0.heap.size, 1, none⟩ = some (.int .i64 0) := (newB he).cell 1; have d2 : w1.cell? ⟨w0.heap.size, 2, none⟩ = some (.int .i64 0) := (newB he).cell 2; have d3 := (newB he).frozen 0; have d4 := (newB he).frozen 1; have d5 := (newB he).frozen 2))
  all_goals (go_wp2_with fail; go_meet; first | exact names1 _ he | exact names2 _ _ _ _ _ rfl he)
 case rest =>
  obtain ⟨B, rfl, k1, nb⟩ := hcut
  clear hx h1' h2'
  have N0 := nb.cell 0
  have N1 := nb.cell 1
  have N2 := nb.cell 2
  simp only [List.getElem?_toArray, List.getElem?_cons_zero, List.getElem?_cons_succ] at N0 N1 N2
  clear nb
  replace A0 := k1.cell A0
  replace A1 := k1.cell A1
  replace A2 := k1.cell A2
  replace A3 := k1.cell A3
  replace A4 := k1.cell A4
  replace A5 := k1.cell A5
  replace I0 := k1.cell I0
  replace I1 := k1.cell I1
  replace I2 := k1.cell I2
  replace I3 := k1.cell I3
  replace h := h.ext (k0.trans k1)
  replace hc := hc.ext (k0.trans k1)
  replace k0 := k0.trans k1
  clear l0 l1 k1
  cases ha : opd p f (ka i.op) i.a
  ·have HB := Lib.hid (ins_a ha)
   replace ha := Lib.hid ha
   go_wp2_with fail
   refine (oper_any p f vp vi vt cv (ka i.op) i.a false ha.out _ (ka_in i.op).1 (ka_in i.op).2 h hc).mono ?_
   rintro e w2 ⟨rfl, e2⟩
   replace h := h.ext e2
   replace hc := hc.ext e2
   replace k0 := k0.trans e2
   clear e2
   go_wp2_with fail
   go_ret
   exact ⟨ret_of (bool_eq (HB.out).symm), k0⟩
  cases hb' : opd p f (kb i.op) i.b
  ·have HB := Lib.hid (ins_b hb')
   replace ha := Lib.hid ha
   replace hb' := Lib.hid hb'
   go_wp2_with fail
   refine (oper_any p f vp vi vt cv (ka i.op) i.a true ha.out _ (ka_in i.op).1 (ka_in i.op).2 h hc).mono ?_
   rintro e w2 ⟨rfl, e2⟩
   replace A0 := e2.cell A0
   replace A1 := e2.cell A1
   replace A2 := e2.cell A2
   replace A3 := e2.cell A3
   replace A4 := e2.cell A4
   replace A5 := e2.cell A5
   replace I0 := e2.cell I0
   replace I1 := e2.cell I1
   replace I2 := e2.cell I2
   replace I3 := e2.cell I3
   replace N0 := e2.cell N0
   replace N1 := e2.cell N1
   replace N2 := e2.cell N2
   replace h := h.ext e2
   replace hc := hc.ext e2
   replace k0 := k0.trans e2
   clear e2
   go_wp2_with fail
   refine (oper_any p f vp vi vt cv (kb i.op) i.b false hb'.out _ (kb_in i.op).1 (kb_in i.op).2 h hc).mono ?_
   rintro e w3 ⟨rfl, e3⟩
   replace h := h.ext e3
   replace hc := hc.ext e3
   replace k0 := k0.trans e3
   clear e3
   go_wp2_with fail
   go_ret
   exact ⟨ret_of (bool_eq (HB.out).symm), k0⟩
  cases hc' : opd p f (kc i.op) i.c
  ·have HB := Lib.hid (ins_c hc')
   replace ha := Lib.hid ha
   replace hb' := Lib.hid hb'
   replace hc' := Lib.hid hc'
   go_wp2_with fail
   refine (oper_any p f vp vi vt cv (ka i.op) i.a true ha.out _ (ka_in i.op).1 (ka_in i.op).2 h hc).mono ?_
   rintro e w2 ⟨rfl, e2⟩
   replace A0 := e2.cell A0
   replace A1 := e2.cell A1
   replace A2 := e2.cell A2
   replace A3 := e2.cell A3
   replace A4 := e2.cell A4
   replace A5 := e2.cell A5
   replace I0 := e2.cell I0
   replace I1 := e2.cell I1
   replace I2 := e2.cell I2
   replace I3 := e2.cell I3
   replace N0 := e2.cell N0
   replace N1 := e2.cell N1
   replace N2 := e2.cell N2
   replace h := h.ext e2
   replace hc := hc.ext e2
   replace k0 := k0.trans e2
   clear e2
   go_wp2_with fail
   refine (oper_any p f vp vi vt cv (kb i.op) i.b true hb'.out _ (kb_in i.op).1 (kb_in i.op).2 h hc).mono ?_
   rintro e w3 ⟨rfl, e3⟩
   replace A0 := e3.cell A0
   replace A1 := e3.cell A1
   replace A2 := e3.cell A2
   replace A3 := e3.cell A3
   replace A4 := e3.cell A4
   replace A5 := e3.cell A5
   replace I0 := e3.cell I0
   replace I1 := e3.cell I1
   replace I2 := e3.cell I2
   replace I3 := e3.cell I3
   replace N0 := e3.cell N0
   replace N1 := e3.cell N1
   replace N2 := e3.cell N2
   replace h := h.ext e3
   replace hc := hc.ext e3
   replace k0 := k0.trans e3
   clear e3
   go_wp2_with fail
   refine (oper_any p f vp vi vt cv (kc i.op) i.c false hc'.out _ (kc_in i.op).1 (kc_in i.op).2 h hc).mono ?_
   rintro e w4 ⟨rfl, e4⟩
   replace h := h.ext e4
   replace hc := hc.ext e4
   replace k0 := k0.trans e4
   clear e4
   go_wp2_with fail
   go_ret
   exact ⟨ret_of (bool_eq (HB.out).symm), k0⟩
  have HX := Lib.hid (ins_x h1 h35 ha hb' hc')
  replace ha := Lib.hid ha
  replace hb' := Lib.hid hb'
  replace hc' := Lib.hid hc'
  go_wp2_with fail
  refine (oper_any p f vp vi vt cv (ka i.op) i.a true ha.out _ (ka_in i.op).1 (ka_in i.op).2 h hc).mono ?_
  rintro e w2 ⟨rfl, e2⟩
  replace A0 := e2.cell A0
  replace A1 := e2.cell A1
  replace A2 := e2.cell A2
  replace A3 := e2.cell A3
  replace A4 := e2.cell A4
  replace A5 := e2.cell A5
  replace I0 := e2.cell I0
  replace I1 := e2.cell I1
  replace I2 := e2.cell I2
  replace I3 := e2.cell I3
  replace N0 := e2.cell N0
  replace N1 := e2.cell N1
  replace N2 := e2.cell N2
  replace h := h.ext e2
  replace hc := hc.ext e2
  replace k0 := k0.trans e2
  clear e2
  go_wp2_with fail
  refine (oper_any p f vp vi vt cv (kb i.op) i.b true hb'.out _ (kb_in i.op).1 (kb_in i.op).2 h hc).mono ?_
  rintro e w3 ⟨rfl, e3⟩
  replace A0 := e3.cell A0
  replace A1 := e3.cell A1
  replace A2 := e3.cell A2
  replace A3 := e3.cell A3
  replace A4 := e3.cell A4
  replace A5 := e3.cell A5
  replace I0 := e3.cell I0
  replace I1 := e3.cell I1
  replace I2 := e3.cell I2
  replace I3 := e3.cell I3
  replace N0 := e3.cell N0
  replace N1 := e3.cell N1
  replace N2 := e3.cell N2
  replace h := h.ext e3
  replace hc := hc.ext e3
  replace k0 := k0.trans e3
  clear e3
  go_wp2_with fail
  refine (oper_any p f vp vi vt cv (kc i.op) i.c true hc'.out _ (kc_in i.op).1 (kc_in i.op).2 h hc).mono ?_
  rintro e w4 ⟨rfl, e4⟩
  replace A0 := e4.cell A0
  replace A1 := e4.cell A1
  replace A2 := e4.cell A2
  replace A3 := e4.cell A3
  replace A4 := e4.cell A4
  replace A5 := e4.cell A5
  replace I0 := e4.cell I0
  replace I1 := e4.cell I1
  replace I2 := e4.cell I2
  replace I3 := e4.cell I3
  replace h := h.ext e4
  replace hc := hc.ext e4
  replace k0 := k0.trans e4
  clear e4
  by_cases hop1 : i.op = 1
  ·have hop := hop1
   have HB := Lib.hid (show extra p f i = decide (i.a ≤ i.b) by simp [extra, hop])
   clear ha
   clear hb'
   clear hc'
   have t1 : (i.op == 1) = true := by simp [hop]
   clear hop hop1 h1 h35
   go_wp2_with fail
   go_ret
   exact ⟨ret_of (bool_eq (HX.out.trans HB.out).symm), k0⟩
  by_cases hop30 : i.op = 30
  ·have hop := hop30
   have HB := Lib.hid (show extra p f i = decide (i.a + 2 < f.rg) by simp [extra, hop])
   have ra := opd_reg (p := p) (f := f) (n := i.a) (by have := ha.out; rwa [hop] at this)
   have r1 := hb.r1
   clear ha
   clear hb'
   clear hc'
   have t1 : (i.op == 1) = false := by simp; omega
   have t30 : (i.op == 30) = true := by simp [hop]
   clear hop hop1 hop30 h1 h35
   go_wp2_with fail
   go_ret
   exact ⟨ret_of (bool_eq (HX.out.trans HB.out).symm), k0⟩
  by_cases hop31 : i.op = 31
  ·have hop := hop31
   have HB := Lib.hid (show extra p f i = decide (i.a + 2 < f.rg) by simp [extra, hop])
   have ra := opd_reg (p := p) (f := f) (n := i.a) (by have := ha.out; rwa [hop] at this)
   have r1 := hb.r1
   clear ha
   clear hb'
   clear hc'
   have t1 : (i.op == 1) = false := by simp; omega
   have t30 : (i.op == 30) = false := by simp; omega
   have t31 : (i.op == 31) = true := by simp [hop]
   clear hop hop1 hop30 hop31 h1 h35
   go_wp2_with fail
   go_ret
   exact ⟨ret_of (bool_eq (HX.out.trans HB.out).symm), k0⟩
  by_cases hop32 : i.op = 32
  ·have hop := hop32
   have ra := opd_reg (p := p) (f := f) (n := i.a) (by have := ha.out; rwa [hop] at this)
   have rb := opd_fun (p := p) (f := f) (n := i.b) (by have := hb'.out; rwa [hop] at this)
   have r1 := hb.r1
   obtain ⟨j, hj⟩ : ∃ j : Nat, i.b = j := ⟨i.b.toNat, by omega⟩
   have hjl : j < p.ps.length := by omega
   obtain ⟨q, c, rfl, hq⟩ := h.ps
   obtain ⟨pb, po, rfl, hpc⟩ := hq (by omega)
   have c1 := (hpc j hjl).1
   have rp := hb.pa _ (List.getElem_mem hjl)
   have HB := Lib.hid (show extra p f i = decide (i.a + p.ps[j].pa ≤ f.rg) by simp [extra, hop, hj, List.getD, hjl])
   rw [hj] at I2
   clear hpc hq rb
   obtain ⟨g, hg⟩ : ∃ g, p.ps[j].pa = g := ⟨_, rfl⟩
   rw [hg] at c1 rp HB
   clear hg
   clear ha
   clear hb'
   clear hc'
   have t1 : (i.op == 1) = false := by simp; omega
   have t30 : (i.op == 30) = false := by simp; omega
   have t31 : (i.op == 31) = false := by simp; omega
   have t32 : (i.op == 32) = true := by simp [hop]
   clear hop hop1 hop30 hop31 hop32 h1 h35
   go_wp2_with fail
   go_quiet (fail)
   replace k0 := k0.drewN nq
   go_wp2_with fail
   go_ret
   exact ⟨ret_of (bool_eq (HX.out.trans HB.out).symm), k0⟩
  by_cases hop33 : i.op = 33
  ·have hop := hop33
   have HB := Lib.hid (show extra p f i = decide (i.a + i.c ≤ f.rg) by simp [extra, hop])
   have ra := opd_reg (p := p) (f := f) (n := i.a) (by have := ha.out; rwa [hop] at this)
   have rc := opd_cnt (p := p) (f := f) (n := i.c) (by have := hc'.out; rwa [hop] at this)
   have r1 := hb.r1
   clear ha
   clear hb'
   clear hc'
   have t1 : (i.op == 1) = false := by simp; omega
   have t30 : (i.op == 30) = false := by simp; omega
   have t31 : (i.op == 31) = false := by simp; omega
   have t32 : (i.op == 32) = false := by simp; omega
   have t33 : (i.op == 33) = true := by simp [hop]
   clear hop hop1 hop30 hop31 hop32 hop33 h1 h35
   go_wp2_with fail
   go_ret
   exact ⟨ret_of (bool_eq (HX.out.trans HB.out).symm), k0⟩
  have HB := Lib.hid (show extra p f i = true by simp [extra, hop1, hop30, hop31, hop32, hop33])
  clear ha hb' hc'
  have t1 : (i.op == 1) = false := by simp; omega
  have t30 : (i.op == 30) = false := by simp; omega
  have t31 : (i.op == 31) = false := by simp; omega
  have t32 : (i.op == 32) = false := by simp; omega
  have t33 : (i.op == 33) = false := by simp; omega
  clear hop1 hop30 hop31 hop32 hop33 h1 h35
  go_wp2_with fail
  go_ret
  exact ⟨ret_of (bool_eq (HX.out.trans HB.out).symm), k0⟩
end Go.Proofs.YtfjipoijbmmjcaaGreatDoor
