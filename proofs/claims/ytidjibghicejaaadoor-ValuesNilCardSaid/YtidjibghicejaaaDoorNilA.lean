/- What is told of no heap. -/
import Derived.Test.YtidjibghicejaaaDoorLawO
import Derived.StillTailTactics
import Derived.ScopeJumps
namespace Go.Proofs.YtidjibghicejaaaDoor
open Go.RowKit
set_option linter.unusedVariables false
set_option linter.unusedSimpArgs false

abbrev noTab : Value := .agg #[.map none, .map none]
theorem take_nil (n : Int) (w : World) : Calls Tryd.prog 33 #[.pointer none, .int .i64 n] w fun e w' => e = .returned (.bool false) ∧ Ext w w' := by
  go_enter Tryd.func33, Tryd.ntmps33
  go_wp2_with fail
  go_quiet (fail)
  go_wp2
  go_ret
  exact ⟨rfl, (Ext.refl w).drewN nq⟩
set_option maxRecDepth 100000 in
theorem table_nil (w : World) : Calls Tryd.prog 19 #[.pointer none] w fun e w' => e = .returned (.tuple #[Vl.zero.v, .string sMemory]) ∧ Ext w w' := by
  go_enter Tryd.func19, Tryd.ntmps19
  go_wp2_with fail
  refine (take_nil 1 _).mono ?_
  rintro e w1 ⟨rfl, e1⟩
  have k1 := ((Ext.refl w).alloc _).trans e1
  have z1 := e1.lt1
  obtain ⟨p1, p2⟩ := e1.cells
  go_wp2_with fail
  exact bodyPost_ret (v := .tuple #[Vl.zero.v, .string sMemory]) (by simp [results, Tryd.results19, go_sem, sMemory, Vl.zero, *]) rfl ⟨rfl, by repeat (first | exact k1 | refine Ext.alloc ?_ _ | refine Ext.setCell ?_ (by simp <;> omega) _)⟩
set_option maxRecDepth 100000 in
theorem of_nil (v : Vl) (w : World) : Calls Tryd.prog 34 #[.pointer none, v.v] w fun e w' => e = .returned (.tuple #[noTab, .string sMemory]) ∧ Ext w w' := by
  go_enter Tryd.func34, Tryd.ntmps34
  go_wp2_with fail
  refine wp_scope_jumps 0 (fun a' w' => a' = ⟨#[.pointer none, v.v, undef, .pointer (some ⟨w.heap.size, 0, none⟩), .pointer (some ⟨w.heap.size + 1, 0, none⟩), .string ⟨#[109, 101, 109, 111, 114, 121]⟩, .pointer none, .bool true, undef, undef, undef, undef, undef, undef, undef, undef, undef, undef, undef, undef, undef, undef, undef, undef, undef, undef, undef, undef, undef, undef, undef, undef, undef, undef], []⟩ ∧
    w' = (w.alloc (.cells #[.int .i64 v.k, .int .i64 v.n, .string v.s] 24)).alloc (.cells #[.map none, .map none] 75)) (fun _ _ => 0) rfl ?_ ?_
  · go_wp2_with fail
    go_step3
    exact ⟨rfl, rfl, rfl⟩
  · rintro a' w' ⟨rfl, rfl⟩
    go_wp2_with fail
    simp only [Exit.jump]
    exact bodyPost_ret (v := .tuple #[noTab, .string sMemory]) (by simp [results, Tryd.results34, go_sem, sMemory, *]) rfl ⟨rfl, by repeat (first | exact Ext.refl _ | refine Ext.alloc ?_ _ | refine Ext.setCell ?_ (by simp <;> omega) _)⟩
set_option maxRecDepth 100000 in
theorem get_nil (t k : Vl) (w : World) : Calls Tryd.prog 20 #[.pointer none, t.v, k.v] w fun e w' => e = .returned (.tuple #[Vl.zero.v, .string sMemory]) ∧ Ext w w' := by
  have t1 : sMemory.toList = [109, 101, 109, 111, 114, 121] := by rw [Lib.toList_data]; rfl
  go_enter Tryd.func20, Tryd.ntmps20
  go_wp2_with fail
  refine (of_nil t _).mono ?_
  rintro e w1 ⟨rfl, e1⟩
  have k1 := ((((Ext.refl w).alloc _).alloc _).alloc _).trans e1
  obtain ⟨z1, z2, z3⟩ := e1.lt3
  obtain ⟨p1, p2⟩ := e1.cells
  go_wp2_with fail
  exact bodyPost_ret (v := .tuple #[Vl.zero.v, .string sMemory]) (by simp [results, Tryd.results20, go_sem, sMemory, Vl.zero, *]) rfl ⟨rfl, by repeat (first | exact k1 | refine Ext.alloc ?_ _ | refine Ext.setCell ?_ (by simp <;> omega) _)⟩
set_option maxRecDepth 100000 in
theorem set_nil (t k v : Vl) (w : World) : Calls Tryd.prog 21 #[.pointer none, t.v, k.v, v.v] w fun e w' => e = .returned (.string sMemory) ∧ Ext w w' := by
  have t1 : sMemory.toList = [109, 101, 109, 111, 114, 121] := by rw [Lib.toList_data]; rfl
  go_enter Tryd.func21, Tryd.ntmps21
  go_wp2_with fail
  refine (get_nil t k _).mono ?_
  rintro e w1 ⟨rfl, e1⟩
  have k1 := ((((Ext.refl w).alloc _).alloc _).alloc _).trans e1
  obtain ⟨z1, z2, z3⟩ := e1.lt3
  obtain ⟨p1, p2⟩ := e1.cells
  go_wp2_with fail
  go_ret
  exact ⟨rfl, by repeat (first | exact k1 | refine Ext.alloc ?_ _ | refine Ext.setCell ?_ (by simp <;> omega) _)⟩
set_option maxRecDepth 100000 in
theorem len_nil (v : Vl) (w : World) : Calls Tryd.prog 22 #[.pointer none, v.v] w fun e w' => e = .returned (.tuple #[.int .i64 0, .string sMemory]) ∧ Ext w w' := by
  have t1 : sMemory.toList = [109, 101, 109, 111, 114, 121] := by rw [Lib.toList_data]; rfl
  go_enter Tryd.func22, Tryd.ntmps22
  go_wp2_with fail
  refine (of_nil v _).mono ?_
  rintro e w1 ⟨rfl, e1⟩
  have k1 := ((Ext.refl w).alloc _).trans e1
  go_wp2_with fail
  go_ret2
  exact ⟨rfl, by repeat (first | exact k1 | refine Ext.alloc ?_ _ | refine Ext.setCell ?_ (by simp <;> omega) _)⟩
set_option maxRecDepth 100000 in
theorem keys_nil (v : Vl) (w : World) : Calls Tryd.prog 23 #[.pointer none, v.v] w fun e w' => e = .returned (.tuple #[.slice none 0 0, .string sMemory]) ∧ Ext w w' := by
  have t1 : sMemory.toList = [109, 101, 109, 111, 114, 121] := by rw [Lib.toList_data]; rfl
  go_enter Tryd.func23, Tryd.ntmps23
  go_wp2_with fail
  refine (of_nil v _).mono ?_
  rintro e w1 ⟨rfl, e1⟩
  have k1 := ((Ext.refl w).alloc _).trans e1
  go_wp2_with fail
  go_ret2
  exact ⟨rfl, by repeat (first | exact k1 | exact e1 | refine Ext.alloc ?_ _ | refine Ext.setCell ?_ (by simp <;> omega) _)⟩
set_option maxRecDepth 100000 in
theorem make_nil (s : ByteArray) (w : World) : Calls Tryd.prog 24 #[.pointer none, .string s] w fun e w' => e = .returned (.tuple #[Vl.zero.v, .string sMemory]) ∧ Ext w w' := by
  go_enter Tryd.func24, Tryd.ntmps24
  go_wp2_with fail
  exact bodyPost_ret (v := .tuple #[Vl.zero.v, .string sMemory]) (by simp [results, Tryd.results24, go_sem, sMemory, Vl.zero, *]) rfl ⟨rfl, (Ext.refl w).alloc _⟩
end Go.Proofs.YtidjibghicejaaaDoor
