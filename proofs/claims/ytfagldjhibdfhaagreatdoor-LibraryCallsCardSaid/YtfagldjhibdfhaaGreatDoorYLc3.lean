/- Call of no heap. -/
import Derived.Test.YtfagldjhibdfhaaGreatDoorYB5
import Derived.StillTailTactics
import Derived.ScopeJumps
namespace Go.Proofs.YtfagldjhibdfhaaGreatDoor
open Go.RowKit
set_option linter.unusedVariables false
set_option linter.unusedSimpArgs false

set_option maxRecDepth 100000 in
theorem of_nil (v : Vl) (w : World) : Calls Tryz.prog 41 #[.pointer none, v.v] w fun e w' => e = .returned (.tuple #[noTab, .string sMemory]) ∧ Ext w w' := by
 go_enter Tryz.func41, Tryz.ntmps41
 go_wp2_with fail
 refine wp_scope_jumps 0 (fun a' w' => a' = ⟨#[.pointer none, v.v, undef, .pointer (some ⟨w.heap.size, 0, none⟩), .pointer (some ⟨w.heap.size + 1, 0, none⟩), .string ⟨#[109, 101, 109, 111, 114, 121]⟩, .pointer none, .bool true, undef, undef, undef, undef, undef, undef, undef, undef, undef, undef, undef, undef, undef, undef, undef, undef, undef, undef, undef, undef, undef, undef, undef, undef, undef, undef], []⟩ ∧
  w' = (w.alloc (.cells #[.int .i64 v.k, .int .i64 v.n, .string v.s] 26)).alloc (.cells #[.map none, .map none] 79)) (fun _ _ => 0) rfl ?_ ?_
 ·go_wp2_with fail
  go_step3
  exact ⟨rfl, rfl, rfl⟩
 ·rintro a' w' ⟨rfl, rfl⟩
  go_wp2_with fail
  simp only [Exit.jump]
  exact bodyPost_ret (v := .tuple #[noTab, .string sMemory]) (by simp [results, Tryz.results41, go_sem, sMemory, *]) rfl ⟨rfl, by repeat (first | exact Ext.refl _ | refine Ext.alloc ?_ _ | refine Ext.setCell ?_ (by simp <;> omega) _)⟩
set_option maxRecDepth 100000 in
theorem len_nil (v : Vl) (w : World) : Calls Tryz.prog 27 #[.pointer none, v.v] w fun e w' => e = .returned (.tuple #[.int .i64 0, .string sMemory]) ∧ Ext w w' := by
 have t1 : sMemory.toList = [109, 101, 109, 111, 114, 121] := by rw [Lib.toList_data]; rfl
 go_enter Tryz.func27, Tryz.ntmps27
 go_wp2_with fail
 refine (of_nil v _).mono ?_
 rintro e w1 ⟨rfl, e1⟩
 have k1 := ((Ext.refl w).alloc _).trans e1
 go_wp2_with fail
 go_ret2
 exact ⟨rfl, by repeat (first | exact k1 | refine Ext.alloc ?_ _ | refine Ext.setCell ?_ (by simp <;> omega) _)⟩
set_option maxRecDepth 100000 in
set_option maxHeartbeats 2000000 in
theorem call_nil (w : World) (name : ByteArray) (f : Nat) (hi : libIdx name = some f) (q : Option Addr) (m cap : Nat) :
  Calls Tryz.prog 15 #[.pointer none, .string name, .slice q m cap] w fun e w' => e = .returned (.tuple #[Vl.zero.v, .string sMemory, .bool true]) ∧ Ext w w' := by
 have HF := Lib.hid (Faces.new w)
 have HE := Lib.hid ((((Ext.refl w).alloc (.cells #[.int .i64 0, .int .i64 0, .string ⟨#[]⟩] 26)).alloc (.cells #[.string ⟨#[]⟩] 9)).alloc (.cells #[.bool false] 4))
 have HI := Lib.hid hi
 have hf := libIdx_lt hi
 have t1 : sMemory.toList.isEmpty = false := by rw [Lib.toList_data]; rfl
 have t2 : sMemory.toList = [109, 101, 109, 111, 114, 121] := by rw [Lib.toList_data]; rfl
 clear hi
 go_enter_defers Tryz.func15, Tryz.ntmps15
 go_wp2_with fail
 refine (functions_any _).mono ?_
 rintro e w1 ⟨r, nb, kv, rfl, hl, he, hr⟩
 have hg := lib_get nb kv name
 rw [HI.out, Option.map_some] at hg
 obtain ⟨kq, hkq⟩ := (hl.kind f hf).slice
 obtain ⟨fn, cp, hfn⟩ := fnV_func nb f
 rw [hkq, hfn] at hg
 have lk := run_mget keyed_str Tryz.underlying70 Tryz.underlying9 hl.map name _ hg true
 simp only [if_true] at lk
 have FA := Lib.hid ((HF.out.ext he).ext ((Ext.refl w1).alloc (.cells #[.slice kq (kindS f).length (kindS f).length, .func fn #[] cp] 68)))
 have EA := Lib.hid ((HE.out.trans he).alloc (.cells #[.slice kq (kindS f).length (kindS f).length, .func fn #[] cp] 68))
 clear hg hl he hkq hfn
 go_wp2_with fail
 generalize w1.alloc (.cells #[.slice kq (kindS f).length (kindS f).length, .func fn #[] cp] 68) = wa at EA FA ⊢
 refine (text_any _ _).mono ?_
 rintro e w2 ⟨rfl, e2⟩
 have E2 := Lib.hid (EA.out.trans e2)
 have F2 := Lib.hid (FA.out.ext e2)
 clear e2 FA EA lk
 go_wp2_with fail
 refine (show Calls Tryz.prog 27 #[.pointer none, vv 3 0 ⟨#[]⟩] w2 _ from len_nil ⟨3, 0, ⟨#[]⟩⟩ w2).mono ?_
 rintro e w3 ⟨rfl, e3⟩
 have F1 := F2.out.ext e3
 have E1 := Lib.hid (E2.out.trans e3)
 have a0 := F1.v.cell 0
 have a1 := F1.v.cell 1
 have a2 := F1.v.cell 2
 have a3 := F1.s.cell 0
 have a4 := F1.b.cell 0
 have f0 := F1.v.frozen 0
 have f1 := F1.v.frozen 1
 have f2 := F1.v.frozen 2
 have f3 := F1.s.frozen 0
 have f4 := F1.b.frozen 0
 have l0 := F1.v.lt
 have l1 := F1.s.lt
 have l2 := F1.b.lt
 simp only [List.getElem?_toArray, List.getElem?_cons_zero, List.getElem?_cons_succ] at a0 a1 a2 a3 a4
 have HF1 := Lib.hid F1
 clear F1 F2 E2 e3
 go_wp2_with fail
 exact face_end _ _ _ _ _ (HF1.out.put ⟨0, 0, ⟨#[]⟩⟩ sMemory true) _ ⟨rfl, Faces.put_ext E1.out (Nat.le_refl _) _ _ _ _ _⟩ _ _ _ _ _ _ _ _ _ _ _ _ _ _ _ _ _ _ _ _ _ _ _ _ _ _ _ _ _ _ _ _ _ _ _ _ _ _ _ _
end Go.Proofs.YtfagldjhibdfhaaGreatDoor
