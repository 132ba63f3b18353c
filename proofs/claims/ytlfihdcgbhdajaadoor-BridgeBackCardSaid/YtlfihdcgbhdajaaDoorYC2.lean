/- What is told of no heap. What is told of no heap: BridgeNil. BridgeNil: what is told of no heap. BridgeBack: the reply of a reply's value is the reply, and takes no cells. -/
import Derived.Test.YtlfihdcgbhdajaaDoorYB2
import Derived.Test.YtlfihdcgbhdajaaDoorYB1
import Derived.Test.YtlfihdcgbhdajaaDoorYA1
import Derived.Lib.ItoaLen
import Derived.Test.YtlfihdcgbhdajaaDoorProg
import Derived.StillTailTactics
import Derived.ScopeJumps
import Derived.Test.YtlfihdcgbhdajaaDoorYB9
import Derived.Test.YtlfihdcgbhdajaaDoorYC1
import Derived.BigQuiet
import Derived.Test.YtlfihdcgbhdajaaDoorYB4
namespace Go.Proofs.YtlfihdcgbhdajaaDoor
open Go.RowKit
set_option linter.unusedVariables false
set_option linter.unusedSimpArgs false

set_option maxRecDepth 100000 in
theorem of_nil (v : Vl) (w : World) : Calls Tryd.prog 35 #[.pointer none, v.v] w fun e w' => e = .returned (.tuple #[noTab, .string sMemory]) ∧ Ext w w' := by
 go_enter Tryd.func35, Tryd.ntmps35
 go_wp2_with fail
 refine wp_scope_jumps 0 (fun a' w' => a' = ⟨#[.pointer none, v.v, undef, .pointer (some ⟨w.heap.size, 0, none⟩), .pointer (some ⟨w.heap.size + 1, 0, none⟩), .string ⟨#[109, 101, 109, 111, 114, 121]⟩, .pointer none, .bool true, undef, undef, undef, undef, undef, undef, undef, undef, undef, undef, undef, undef, undef, undef, undef, undef, undef, undef, undef, undef, undef, undef, undef, undef, undef, undef], []⟩ ∧
  w' = (w.alloc (.cells #[.int .i64 v.k, .int .i64 v.n, .string v.s] 24)).alloc (.cells #[.map none, .map none] 72)) (fun _ _ => 0) rfl ?_ ?_
 ·go_wp2_with fail
  go_step3
  exact ⟨rfl, rfl, rfl⟩
 ·rintro a' w' ⟨rfl, rfl⟩
  go_wp2_with fail
  simp only [Exit.jump]
  exact bodyPost_ret (v := .tuple #[noTab, .string sMemory]) (by simp [results, Tryd.results35, go_sem, sMemory, *]) rfl ⟨rfl, by repeat (first | exact Ext.refl _ | refine Ext.alloc ?_ _ | refine Ext.setCell ?_ (by simp <;> omega) _)⟩
set_option maxRecDepth 100000 in
theorem len_nil (v : Vl) (w : World) : Calls Tryd.prog 12 #[.pointer none, v.v] w fun e w' => e = .returned (.tuple #[.int .i64 0, .string sMemory]) ∧ Ext w w' := by
 have t1 : sMemory.toList = [109, 101, 109, 111, 114, 121] := by rw [Lib.toList_data]; rfl
 go_enter Tryd.func12, Tryd.ntmps12
 go_wp2_with fail
 refine (of_nil v _).mono ?_
 rintro e w1 ⟨rfl, e1⟩
 have k1 := ((Ext.refl w).alloc _).trans e1
 go_wp2_with fail
 go_ret2
 exact ⟨rfl, by repeat (first | exact k1 | refine Ext.alloc ?_ _ | refine Ext.setCell ?_ (by simp <;> omega) _)⟩
end Go.Proofs.YtlfihdcgbhdajaaDoor
namespace Go.Proofs.YtlfihdcgbhdajaaDoor
open Go.RowKit
set_option linter.unusedVariables false
set_option linter.unusedSimpArgs false

theorem mem_ne : ¬ sMemory = sNone := sNone_ne.2.2.2
set_option maxRecDepth 100000 in
set_option maxHeartbeats 2000000 in
theorem reply_nil (w : World) (v : Vl) :
  Calls Tryd.prog 7 #[.pointer none, v.v] w fun e w' => e = .returned (.tuple #[.agg #[.int .i64 0, .int .i64 0, .string ⟨#[]⟩, .slice none 0 0], .string sMemory]) ∧ Ext w w' := by
 have hmf : ∀ (fn : Fn) (first cap : Array Value) (w : World), (Instr.makeFunc fn first cap).run Tryd.prog w = .ok (.func fn first cap) w := fun _ _ _ _ => rfl
 have e0 : Ext w (((w.alloc (.cells #[.int .i64 v.k, .int .i64 v.n, .string v.s] 24)).alloc (.cells #[.int .i64 0, .int .i64 0, .string ⟨#[]⟩, .slice none 0 0] 28)).alloc (.cells #[.string ⟨#[]⟩] 9)) := (((Ext.refl w).alloc _).alloc _).alloc _
 have HE := Lib.hid e0
 have B1 : Hid (Blk (((w.alloc (.cells #[.int .i64 v.k, .int .i64 v.n, .string v.s] 24)).alloc (.cells #[.int .i64 0, .int .i64 0, .string ⟨#[]⟩, .slice none 0 0] 28)).alloc (.cells #[.string ⟨#[]⟩] 9)) (w.heap.size + 1) 28 #[.int .i64 0, .int .i64 0, .string ⟨#[]⟩, .slice none 0 0]) := Lib.hid (by
  have := Blk.new (w.alloc (.cells #[.int .i64 v.k, .int .i64 v.n, .string v.s] 24)) 28 #[.int .i64 0, .int .i64 0, .string ⟨#[]⟩, .slice none 0 0]
  rw [size_alloc] at this
  exact this.alloc _)
 have B2 : Hid (Blk (((w.alloc (.cells #[.int .i64 v.k, .int .i64 v.n, .string v.s] 24)).alloc (.cells #[.int .i64 0, .int .i64 0, .string ⟨#[]⟩, .slice none 0 0] 28)).alloc (.cells #[.string ⟨#[]⟩] 9)) (w.heap.size + 1 + 1) 9 #[.string ⟨#[]⟩]) := Lib.hid (by
  have := Blk.new ((w.alloc (.cells #[.int .i64 v.k, .int .i64 v.n, .string v.s] 24)).alloc (.cells #[.int .i64 0, .int .i64 0, .string ⟨#[]⟩, .slice none 0 0] 28)) 9 #[.string ⟨#[]⟩]
  rwa [size_alloc, size_alloc] at this)
 have t1 : sMemory.toList.isEmpty = false := by rw [Lib.toList_data]; rfl
 have t2 : sMemory.toList = [109, 101, 109, 111, 114, 121] := by rw [Lib.toList_data]; rfl
 clear e0
 go_enter_defers Tryd.func7, Tryd.ntmps7
 go_wp2_with fail
 generalize (((w.alloc (.cells #[.int .i64 v.k, .int .i64 v.n, .string v.s] 24)).alloc (.cells #[.int .i64 0, .int .i64 0, .string ⟨#[]⟩, .slice none 0 0] 28)).alloc (.cells #[.string ⟨#[]⟩] 9)) = W at *
 refine (text_any _ _).mono ?_
 rintro e w1 ⟨rfl, e1⟩
 have E1 := Lib.hid (HE.out.trans e1)
 have C1 := Lib.hid (B1.out.ext e1)
 have C2 := Lib.hid (B2.out.ext e1)
 clear e1 B1 B2 HE
 go_wp2_with fail
 refine (show Calls Tryd.prog 12 #[.pointer none, vv 3 0 ⟨#[]⟩] w1 _ from len_nil ⟨3, 0, ⟨#[]⟩⟩ w1).mono ?_
 rintro e w2 ⟨rfl, e2⟩
 have E2 := Lib.hid (E1.out.trans e2)
 have D1 := Lib.hid (C1.out.ext e2)
 have D2 := Lib.hid (C2.out.ext e2)
 clear e2 C1 C2 E1
 go_wp2_with fail
 refine (bmust_no sMemory _).mono ?_
 rintro e w3 ⟨he, rfl⟩
 unfold Fails at he
 subst he
 go_wp2_with fail
 refine rface_door _ (w.heap.size + 1) (w.heap.size + 1 + 1) sMemory mem_ne (by omega) _ _ _ _ D1.out D2.out _ ?_ _ _ _ _ _ _ _ _ _ _ _ _ _ _ _ _ _ _ _ _ _ _ _ _ _ _ _ _ _ _
 intro W1 ho
 exact ⟨rfl, ext4 (ho.to_ext E2.out (by omega)) (by omega) _ _ _ _⟩
set_option maxRecDepth 100000 in
set_option maxHeartbeats 2000000 in
theorem value_nil (w : World) (k n : Int) (s : ByteArray) (q : Option Addr) (m c : Nat) :
    Calls Tryd.prog 8 #[.pointer none, .agg #[.int .i64 k, .int .i64 n, .string s, .slice q m c]] w fun e w' => e = .returned (.tuple #[Vl.zero.v, .string sMemory]) ∧ Ext w w' := by
  have HE := Lib.hid (((((Ext.refl w).alloc (.cells #[.pointer none] 37)).alloc (.cells #[.int .i64 k, .int .i64 n, .string s, .slice q m c] 28)).alloc (.cells #[.int .i64 0, .int .i64 0, .string ⟨#[]⟩] 24)).alloc (.cells #[.string ⟨#[]⟩] 9))
  have B0 : Hid (Blk ((((w.alloc (.cells #[.pointer none] 37)).alloc (.cells #[.int .i64 k, .int .i64 n, .string s, .slice q m c] 28)).alloc (.cells #[.int .i64 0, .int .i64 0, .string ⟨#[]⟩] 24)).alloc (.cells #[.string ⟨#[]⟩] 9)) w.heap.size 37 #[.pointer none]) := Lib.hid ((((Blk.new w _ _).alloc _).alloc _).alloc _)
  have B2 : Hid (Blk ((((w.alloc (.cells #[.pointer none] 37)).alloc (.cells #[.int .i64 k, .int .i64 n, .string s, .slice q m c] 28)).alloc (.cells #[.int .i64 0, .int .i64 0, .string ⟨#[]⟩] 24)).alloc (.cells #[.string ⟨#[]⟩] 9)) (w.heap.size + 1 + 1) 24 #[.int .i64 0, .int .i64 0, .string ⟨#[]⟩]) := Lib.hid (by
    have := Blk.new ((w.alloc (.cells #[.pointer none] 37)).alloc (.cells #[.int .i64 k, .int .i64 n, .string s, .slice q m c] 28)) 24 #[.int .i64 0, .int .i64 0, .string ⟨#[]⟩]
    rw [size_alloc, size_alloc] at this
    exact this.alloc _)
  have B3 : Hid (Blk ((((w.alloc (.cells #[.pointer none] 37)).alloc (.cells #[.int .i64 k, .int .i64 n, .string s, .slice q m c] 28)).alloc (.cells #[.int .i64 0, .int .i64 0, .string ⟨#[]⟩] 24)).alloc (.cells #[.string ⟨#[]⟩] 9)) (w.heap.size + 1 + 1 + 1) 9 #[.string ⟨#[]⟩]) := Lib.hid (by
    have := Blk.new (((w.alloc (.cells #[.pointer none] 37)).alloc (.cells #[.int .i64 k, .int .i64 n, .string s, .slice q m c] 28)).alloc (.cells #[.int .i64 0, .int .i64 0, .string ⟨#[]⟩] 24)) 9 #[.string ⟨#[]⟩]
    rwa [size_alloc, size_alloc, size_alloc] at this)
  have d0 := B0.out.cell 0
  simp only [List.getElem?_toArray, List.getElem?_cons_zero, List.getElem?_cons_succ] at d0
  have t1 : sMemory.toList.isEmpty = false := by rw [Lib.toList_data]; rfl
  have t2 : sMemory.toList = [109, 101, 109, 111, 114, 121] := by rw [Lib.toList_data]; rfl
  go_enter_defers Tryd.func8, Tryd.ntmps8
  go_wp2_with fail
  generalize ((((w.alloc (.cells #[.pointer none] 37)).alloc (.cells #[.int .i64 k, .int .i64 n, .string s, .slice q m c] 28)).alloc (.cells #[.int .i64 0, .int .i64 0, .string ⟨#[]⟩] 24)).alloc (.cells #[.string ⟨#[]⟩] 9)) = W at *
  refine wp_region_noPanic ?_
  refine wp_region_ext (by kernel_rfl) (by kernel_rfl) ?_
  repeat (
    first
      | go_big_quiet_skip
      | (go_big_quiet_want
         go_big_quiet_op
         first
           | go_big_quiet_on
           | (apply Exists.intro
              refine ⟨fun wq hq => ?_, ?_⟩
              focus (
                have d0 := hq.cell d0
                first
                  | (go_at_call 19; exact Calls.ext_of hq (text_any _ wq); done)
                  | (go_at_call 12; exact Calls.ext_of hq (show Calls Tryd.prog 12 #[.pointer none, vv 3 0 ⟨#[]⟩] wq _ from len_nil ⟨3, 0, ⟨#[]⟩⟩ wq); done)
                  | (go_simp; exact rfl))
              go_big_quiet_on)))
  refine wpQuiet_nil ?_
  intro we hwe
  refine NoPanic.normal ?_
  have E1 := Lib.hid (HE.out.trans hwe)
  have C2 := Lib.hid (B2.out.ext hwe)
  have C3 := Lib.hid (B3.out.ext hwe)
  clear hwe d0 B0 B2 B3 HE
  obtain ⟨z0, z1, z2, y0, y1, y2⟩ := three C2.out
  have z3 := C3.out.cell 0
  have y3 := C3.out.frozen 0
  have l2 := C2.out.lt
  have l3 := C3.out.lt
  simp only [List.getElem?_toArray, List.getElem?_cons_zero, List.getElem?_cons_succ] at z3
  go_wp2_with fail
  refine vface_end _ (w.heap.size + 1 + 1) (w.heap.size + 1 + 1 + 1) Vl.zero sMemory ((put3 C2.out _ _ _).far (p := ⟨w.heap.size + 1 + 1 + 1, 0, none⟩) (by show ¬ w.heap.size + 1 + 1 = w.heap.size + 1 + 1 + 1; omega) _) ?_ _ ?_ _ _ _ _ _ _ _ _ _ _ _ _ _ _ _ _ _ _ _ _ _ _ _ _ _ _ _ _ _ _ _ _ _ _ _ _ _ _ _
  · have := ((C3.out.far (p := ⟨w.heap.size + 1 + 1, 0, none⟩) (by show ¬ w.heap.size + 1 + 1 + 1 = w.heap.size + 1 + 1; omega) (.int .i64 0)).far (p := ⟨w.heap.size + 1 + 1, 1, none⟩) (by show ¬ w.heap.size + 1 + 1 + 1 = w.heap.size + 1 + 1; omega) (.int .i64 0)).far (p := ⟨w.heap.size + 1 + 1, 2, none⟩) (by show ¬ w.heap.size + 1 + 1 + 1 = w.heap.size + 1 + 1; omega) (.string ⟨#[]⟩)
    have t2 := this.set_ 0 (.string sMemory)
    simp only [List.setIfInBounds_toArray, List.set_cons_zero] at t2
    exact t2
  · exact ⟨rfl, (((E1.out.setCell (p := ⟨w.heap.size + 1 + 1, 0, none⟩) (by show w.heap.size ≤ w.heap.size + 1 + 1; omega) _).setCell (p := ⟨w.heap.size + 1 + 1, 1, none⟩) (by show w.heap.size ≤ w.heap.size + 1 + 1; omega) _).setCell (p := ⟨w.heap.size + 1 + 1, 2, none⟩) (by show w.heap.size ≤ w.heap.size + 1 + 1; omega) _).setCell (p := ⟨w.heap.size + 1 + 1 + 1, 0, none⟩) (by show w.heap.size ≤ w.heap.size + 1 + 1 + 1; omega) _⟩
end Go.Proofs.YtlfihdcgbhdajaaDoor
namespace Go.Proofs.YtlfihdcgbhdajaaDoor
open Go.RowKit
set_option linter.unusedVariables false
set_option linter.unusedSimpArgs false

set_option maxRecDepth 100000 in
set_option maxHeartbeats 2000000 in
theorem law_nil (w : World) (hpw : Pow w) (v : Vl) (x : Rep) (q : Option Addr) (c D : Nat) (hv : ListAt (fun b => b < w.heap.size) w D (.slice q x.l.length c) x.l) :
  Calls Tryd.prog 3 #[v.v, .agg #[.int .i64 x.k, .int .i64 x.n, .string x.s, .slice q x.l.length c]] w fun e w' => e = .returned (.bool true) ∧ Ext w w' := by
 have HP := Lib.hid hpw
 have e0 : Ext w ((w.alloc (.cells #[.int .i64 v.k, .int .i64 v.n, .string v.s] 24)).alloc (.cells #[.int .i64 x.k, .int .i64 x.n, .string x.s, .slice q x.l.length c] 28)) := ((Ext.refl w).alloc _).alloc _
 have HE := Lib.hid e0
 have B2 : Hid (Blk ((w.alloc (.cells #[.int .i64 v.k, .int .i64 v.n, .string v.s] 24)).alloc (.cells #[.int .i64 x.k, .int .i64 x.n, .string x.s, .slice q x.l.length c] 28)) w.heap.size 24 #[.int .i64 v.k, .int .i64 v.n, .string v.s]) := Lib.hid ((Blk.new w _ _).alloc _)
 have B3 : Hid (Blk ((w.alloc (.cells #[.int .i64 v.k, .int .i64 v.n, .string v.s] 24)).alloc (.cells #[.int .i64 x.k, .int .i64 x.n, .string x.s, .slice q x.l.length c] 28)) (w.heap.size + 1) 28 #[.int .i64 x.k, .int .i64 x.n, .string x.s, .slice q x.l.length c]) := Lib.hid (by
  have := Blk.new (w.alloc (.cells #[.int .i64 v.k, .int .i64 v.n, .string v.s] 24)) 28 #[.int .i64 x.k, .int .i64 x.n, .string x.s, .slice q x.l.length c]
  rwa [size_alloc] at this)
 have HV := Lib.hid (hv.ext e0)
 clear hpw e0 hv
 obtain ⟨sv, hsv⟩ : ∃ sv, v.s.size = sv := ⟨_, rfl⟩
 rcases Decidable.em (3000 < sv) with hs | hs
 ·have hd : decide ((3000 : Int) < (sv : Int)) = true := decide_eq_true (by omega)
  have hd2 : decide (3000 < sv) = true := decide_eq_true hs
  go_enter Tryd.func3, Tryd.ntmps3
  go_wp2_with fail
  refine (works_any _ (HP.out.ext HE.out)).mono ?_
  rintro e wz ⟨rfl, ez⟩
  have EZ := Lib.hid (HE.out.trans ez)
  clear ez
  go_wp2_with fail
  go_ret
  exact ⟨rfl, EZ.out⟩
 have hd : decide ((3000 : Int) < (sv : Int)) = false := decide_eq_false (by omega)
 have hd2 : decide (3000 < sv) = false := decide_eq_false hs
 have hz := fun W (hW : Ext ((w.alloc (.cells #[.int .i64 v.k, .int .i64 v.n, .string v.s] 24)).alloc (.cells #[.int .i64 x.k, .int .i64 x.n, .string x.s, .slice q x.l.length c] 28)) W) => size_any D (fun b => b < w.heap.size) W x (.slice q x.l.length c) 0 (HV.out.ext hW) (by decide)
 obtain ⟨sx, hsx⟩ : ∃ sx, szR x 0 = sx := ⟨_, rfl⟩
 rw [hsx] at hz
 have HZ := Lib.hid hz
 clear hz hsx
 go_enter Tryd.func3, Tryd.ntmps3
 go_wp2_with fail
 refine (show Calls Tryd.prog 5 #[.agg #[.int .i64 x.k, .int .i64 x.n, .string x.s, .slice q x.l.length c], .int .i64 0] ((w.alloc (.cells #[.int .i64 v.k, .int .i64 v.n, .string v.s] 24)).alloc (.cells #[.int .i64 x.k, .int .i64 x.n, .string x.s, .slice q x.l.length c] 28)) _ from HZ.out _ (Ext.refl _)).mono ?_
 generalize ((w.alloc (.cells #[.int .i64 v.k, .int .i64 v.n, .string v.s] 24)).alloc (.cells #[.int .i64 x.k, .int .i64 x.n, .string x.s, .slice q x.l.length c] 28)) = W at *
 rintro e w1 ⟨rfl, e1⟩
 have E1 := Lib.hid (HE.out.trans e1)
 have C2 := Lib.hid (B2.out.ext e1)
 have C3 := Lib.hid (B3.out.ext e1)
 clear e1 HE B2 B3 HV hd hd2 hs HZ
 rcases Decidable.em (3000 < sx) with hs | hs
 ·have hd : decide ((3000 : Int) < (sx : Int)) = true := decide_eq_true (by omega)
  have hd2 : decide (3000 < sx) = true := decide_eq_true hs
  go_wp2_with fail
  refine (works_any _ (HP.out.ext E1.out)).mono ?_
  rintro e wz ⟨rfl, ez⟩
  have EZ := Lib.hid (E1.out.trans ez)
  clear ez
  go_wp2_with fail
  go_ret
  exact ⟨rfl, EZ.out⟩
 have hd : decide ((3000 : Int) < (sx : Int)) = false := decide_eq_false (by omega)
 have hd2 : decide (3000 < sx) = false := decide_eq_false hs
 obtain ⟨y0, y1, y2, _⟩ := three C2.out
 go_wp2_with fail
 clear y0 y1 y2 hd hd2 hs
 refine (reply_nil w1 v).mono ?_
 rintro e w2 ⟨rfl, e2⟩
 have E2 := Lib.hid ((E1.out.trans e2).alloc (.cells #[.int .i64 0, .int .i64 0, .string ⟨#[]⟩, .slice none 0 0] 28))
 have ea := e2.alloc (.cells #[.int .i64 0, .int .i64 0, .string ⟨#[]⟩, .slice none 0 0] 28)
 have D3 := Lib.hid (C3.out.ext ea)
 have D5 := Lib.hid (Blk.new w2 28 #[.int .i64 0, .int .i64 0, .string ⟨#[]⟩, .slice none 0 0])
 clear e2 ea E1 C2 C3
 obtain ⟨z0, z1, z2, z3, _⟩ := four D3.out
 go_wp2_with fail
 clear z0 z1 z2 z3
 generalize w2.alloc (.cells #[.int .i64 0, .int .i64 0, .string ⟨#[]⟩, .slice none 0 0] 28) = wa at *
 obtain ⟨b5, hb5⟩ : ∃ b5, w2.heap.size = b5 := ⟨_, rfl⟩
 rw [hb5] at D5 ⊢
 clear hb5
 refine (value_nil wa x.k x.n x.s q x.l.length c).mono ?_
 rintro e w3 ⟨rfl, e3⟩
 have E3 := Lib.hid ((E2.out.trans e3).alloc (.cells #[.int .i64 0, .int .i64 0, .string ⟨#[]⟩] 24))
 have F5 := Lib.hid (D5.out.ext (e3.alloc (.cells #[.int .i64 0, .int .i64 0, .string ⟨#[]⟩] 24)))
 have F7 := Lib.hid (Blk.new w3 24 #[.int .i64 0, .int .i64 0, .string ⟨#[]⟩])
 clear e3 E2 D3 D5
 obtain ⟨z0, z1, z2, z3, _⟩ := four F5.out
 have hvv : Vl.zero.v = vv 0 0 ⟨#[]⟩ := rfl
 rw [hvv]
 clear hvv
 go_wp2_with fail
 clear z0 z1 z2 z3
 generalize w3.alloc (.cells #[.int .i64 0, .int .i64 0, .string ⟨#[]⟩] 24) = wb at *
 obtain ⟨b7, hb7⟩ : ∃ b7, w3.heap.size = b7 := ⟨_, rfl⟩
 rw [hb7] at F7 ⊢
 clear hb7
 have hsm := rsame_any 0 0 (fun _ => True) (fun _ => True) wb (.mk 0 0 sNone []) (.mk 0 0 sNone []) (.slice none 0 0) (.slice none 0 0) (nil_list _ _ _) (nil_list _ _ _) (by decide)
 rw [sameR_self] at hsm
 refine (show Calls Tryd.prog 9 #[.agg #[.int .i64 0, .int .i64 0, .string ⟨#[]⟩, .slice none 0 0], .agg #[.int .i64 0, .int .i64 0, .string ⟨#[]⟩, .slice none 0 0]] wb _ from hsm).mono ?_
 rintro e w4 ⟨rfl, e4⟩
 have E4 := Lib.hid (E3.out.trans e4)
 obtain ⟨y0, y1, y2, _⟩ := three (F7.out.ext e4)
 have t2 : sMemory.toList = [109, 101, 109, 111, 114, 121] := by rw [Lib.toList_data]; rfl
 have t3 : sMemory = ⟨#[109, 101, 109, 111, 114, 121]⟩ := rfl
 clear hsm e4 E3 F5 F7
 rw [t3]
 go_wp2_with fail
 clear y0 y1 y2 t2 t3
 refine (works_any _ (HP.out.ext E4.out)).mono ?_
 rintro e wz ⟨rfl, ez⟩
 have EZ := Lib.hid (E4.out.trans ez)
 clear ez
 go_wp2_with fail
 go_ret
 exact ⟨rfl, EZ.out⟩
end Go.Proofs.YtlfihdcgbhdajaaDoor
namespace Go.Proofs.YtlfihdcgbhdajaaDoor
open Go.RowKit
set_option linter.unusedVariables false
set_option linter.unusedSimpArgs false

theorem valueR_bad {H : Hp} {x : Rep} (h : ¬ (valueR H x).1 = sNone) : (valueR H x).2.1 = Vl.zero := by
 unfold valueR at h ⊢
 split at h
 ·rename_i h1
  rw [if_pos h1]
  split at h
  ·rename_i h2; exact absurd h2 h
  ·rename_i h2; rw [if_neg h2]
 ·rename_i h1
  rw [if_neg h1]
theorem valueR_good {c : Int} (hc : c ≤ 9223372036854775807) {x : Rep} (h6 : i64R x) (h : (valueR (newH c) x).1 = sNone) :
  repOk x ∧ breplyR (valueR (newH c) x).2.2 (valueR (newH c) x).2.1 = (sNone, x) ∧ (valueR (newH c) x).2.2.tabs.length ≤ 900000000 ∧ in64 (valueR (newH c) x).2.1.n := by
 unfold valueR at h ⊢
 by_cases h1 : repOkB x = true
 rotate_left
 ·rw [if_neg h1] at h
  exact absurd h (show ¬ sReply = sNone by decide)
 rw [if_pos h1] at h ⊢
 by_cases h2 : (valP (newH c) x).1 = sNone
 rotate_left
 ·rw [if_neg h2] at h
  exact absurd h h2
 rw [if_pos h2]
 have hx := (repOk_iff x).1 h1
 refine ⟨hx, ?_, ?_, valP_in64 x _ h6 (by show (0 : Nat) ≤ _; omega)⟩
 ·unfold breplyR
  rw [back_plain hc x hx h6 h2]
  simp only [if_pos h1]
 ·have h3 := valP_len x (newH c)
  have h4 := hx.2.2
  have h5 : (newH c).tabs.length = 0 := rfl
  omega
set_option maxRecDepth 100000 in
set_option maxHeartbeats 4000000 in
theorem law_back (w : World) (hpw : Pow w) (n : Int) (hn : in64 n) (x : Rep) (q : Option Addr) (c D : Nat) (hv : ListAt (fun b => b < w.heap.size) w D (.slice q x.l.length c) x.l) (h6 : i64R x) :
  Calls Tryd.prog 4 #[.int .i64 n, .agg #[.int .i64 x.k, .int .i64 x.n, .string x.s, .slice q x.l.length c]] w fun e w' => e = .returned (.bool true) ∧ Ext w w' := by
 have HP := Lib.hid hpw
 have e0 : Ext w (w.alloc (.cells #[.int .i64 x.k, .int .i64 x.n, .string x.s, .slice q x.l.length c] 28)) := (Ext.refl w).alloc _
 have HE := Lib.hid e0
 have B3 : Hid (Blk (w.alloc (.cells #[.int .i64 x.k, .int .i64 x.n, .string x.s, .slice q x.l.length c] 28)) w.heap.size 28 #[.int .i64 x.k, .int .i64 x.n, .string x.s, .slice q x.l.length c]) := Lib.hid (Blk.new w _ _)
 have HV := Lib.hid (hv.ext e0)
 have H6 := Lib.hid h6
 have HN := Lib.hid hn
 have hz := fun W (hW : Ext (w.alloc (.cells #[.int .i64 x.k, .int .i64 x.n, .string x.s, .slice q x.l.length c] 28)) W) => size_any D (fun b => b < w.heap.size) W x (.slice q x.l.length c) 0 (HV.out.ext hW) (by decide)
 obtain ⟨sx, hsx⟩ : ∃ sx, szR x 0 = sx := ⟨_, rfl⟩
 rw [hsx] at hz
 have HZ := Lib.hid hz
 clear hz hsx hpw e0 hv h6 hn
 go_enter Tryd.func4, Tryd.ntmps4
 go_wp2_with fail
 refine (show Calls Tryd.prog 5 #[.agg #[.int .i64 x.k, .int .i64 x.n, .string x.s, .slice q x.l.length c], .int .i64 0] (w.alloc (.cells #[.int .i64 x.k, .int .i64 x.n, .string x.s, .slice q x.l.length c] 28)) _ from HZ.out _ (Ext.refl _)).mono ?_
 generalize (w.alloc (.cells #[.int .i64 x.k, .int .i64 x.n, .string x.s, .slice q x.l.length c] 28)) = W at *
 rintro e w1 ⟨rfl, e1⟩
 have E1 := Lib.hid (HE.out.trans e1)
 have C3 := Lib.hid (B3.out.ext e1)
 have CV := Lib.hid (HV.out.ext e1)
 clear e1 HE B3 HV HZ
 rcases Decidable.em (3000 < sx) with hs | hs
 ·have hd : decide ((3000 : Int) < (sx : Int)) = true := decide_eq_true (by omega)
  have hd2 : decide (3000 < sx) = true := decide_eq_true hs
  go_wp2_with fail
  refine (works_any _ (HP.out.ext E1.out)).mono ?_
  rintro e wz ⟨rfl, ez⟩
  have EZ := Lib.hid (E1.out.trans ez)
  clear ez
  go_wp2_with fail
  go_ret
  exact ⟨rfl, EZ.out⟩
 have hd : decide ((3000 : Int) < (sx : Int)) = false := decide_eq_false (by omega)
 have hd2 : decide (3000 < sx) = false := decide_eq_false hs
 go_wp2_with fail
 clear hd hd2 hs
 refine (new_any n w1 HN.out.2 HN.out.1).mono ?_
 rintro e w2 ⟨rfl, hw2⟩
 have N1 : Hid (OH w1 w2 w1.heap.size (newH n) []) := Lib.hid (by rw [← hw2]; exact OH.new_heap w1 n HN.out.2)
 obtain ⟨g, hg⟩ : ∃ g, w1.heap.size = g := ⟨_, rfl⟩
 have HGE := Lib.hid hg
 rw [hg] at N1 ⊢
 have D3 := Lib.hid (C3.out.ext N1.out.ext)
 have hle := E1.out.le
 have hV := oh_value N1.out (by show (0 : Nat) ≤ _; omega) (HP.out.ext E1.out) x q c D ((CV.out.ext N1.out.ext).keep (fun _ _ _ _ hc => hc) (fun b _ (hb : b < w.heap.size) => .inl (by omega))) H6.out
 have HBAD := Lib.hid (valueR_bad (H := newH n) (x := x))
 have HGOOD := Lib.hid (valueR_good HN.out.2 (x := x) H6.out)
 obtain ⟨p, hp⟩ : ∃ p, valueR (newH n) x = p := ⟨_, rfl⟩
 rw [hp] at hV HBAD HGOOD
 obtain ⟨why, vv0, H2⟩ := p
 obtain ⟨vk, vn, vs⟩ := vv0
 have HVC := Lib.hid hV
 clear hw2 hg hV hp
 obtain ⟨z0, z1, z2, z3, _⟩ := four D3.out
 go_wp2_with fail
 clear z0 z1 z2 z3
 refine (show Calls Tryd.prog 8 _ w2 (fun e w' => e = .returned (.tuple #[vv vk vn vs, .string why]) ∧ OH w1 w' g H2 []) from HVC.out).mono ?_
 rintro e w3 ⟨rfl, n3⟩
 have N3 := Lib.hid (n3.new (.cells #[.int .i64 vk, .int .i64 vn, .string vs] 24))
 clear n3 HVC N1 D3
 rcases Decidable.em (why = sNone) with hw | hw
 rotate_left
 ·have hq1 : ¬ why.toList = [] := ne_list hw
  have hq2 : why.toList.isEmpty = false := by cases hh : why.toList with | nil => exact absurd hh hq1 | cons _ _ => rfl
  have hz0 := HBAD.out hw
  obtain ⟨rfl, rfl, rfl⟩ : vk = 0 ∧ vn = 0 ∧ vs = ⟨#[]⟩ := ⟨congrArg Vl.k hz0, congrArg Vl.n hz0, congrArg Vl.s hz0⟩
  clear hz0 hw
  go_wp2_with fail
  have EZ0 := Lib.hid (E1.out.trans N3.out.ext)
  refine (works_any _ (HP.out.ext EZ0.out)).mono ?_
  rintro e wz ⟨rfl, ez⟩
  have EZ := Lib.hid (EZ0.out.trans ez)
  clear ez
  go_wp2_with fail
  go_ret
  exact ⟨rfl, EZ.out⟩
 subst hw
 have hq1 : sNone.toList = [] := sNone_list
 obtain ⟨hok, hrp, hlen, h64⟩ := HGOOD.out rfl
 have HOK := Lib.hid hok
 have HRP := Lib.hid hrp
 have HLEN := Lib.hid hlen
 have H64 := Lib.hid h64
 clear hok hrp hlen h64 HGOOD HBAD
 go_wp2_with fail
 clear hq1
 generalize w3.alloc (.cells #[.int .i64 vk, .int .i64 vn, .string vs] 24) = wa at *
 obtain ⟨b6, hb6⟩ : ∃ b6, w3.heap.size = b6 := ⟨_, rfl⟩
 rw [hb6] at N3 ⊢
 clear hb6
 refine (oh_spent N3.out).mono ?_
 rintro e w4 ⟨rfl, e4⟩
 have N4 := Lib.hid (N3.out.ext' e4)
 clear e4 N3
 obtain ⟨z0, z1, z2, _⟩ := three (N4.out.blk (List.mem_cons_self ..))
 go_wp2_with fail
 clear z0 z1 z2
 have hR := oh_reply N4.out HLEN.out (HP.out.ext E1.out) ⟨vk, vn, vs⟩ H64.out
 rw [HRP.out] at hR
 refine (show Calls Tryd.prog 7 #[.pointer (some ⟨g, 0, none⟩), .agg #[.int .i64 vk, .int .i64 vn, .string vs]] w4 (fun e w' => ∃ rv, e = .returned (.tuple #[rv, .string ⟨#[]⟩]) ∧ RepV (fun b => w4.heap.size ≤ b) w' 100 rv x ∧ Ext w4 w') from hR).mono ?_
 rintro e w5 ⟨rv, rfl, ⟨lv, rfl, hl⟩, e5⟩
 obtain ⟨q9, c9, rfl⟩ := hl.slice
 have N5 := Lib.hid (N4.out.ext' e5)
 have ea := (Ext.refl w5).alloc (.cells #[.int .i64 x.k, .int .i64 x.n, .string x.s, .slice q9 x.l.length c9] 28)
 have N6 := Lib.hid (N5.out.ext' ea)
 have L9 := Lib.hid (hl.ext ea)
 have D9 := Lib.hid (Blk.new w5 28 #[.int .i64 x.k, .int .i64 x.n, .string x.s, .slice q9 x.l.length c9])
 clear hR hl e5 ea N4 N5
 go_upto_region 9 with fail
 generalize w5.alloc (.cells #[.int .i64 x.k, .int .i64 x.n, .string x.s, .slice q9 x.l.length c9] 28) = wb at *
 obtain ⟨b9, hb9⟩ : ∃ b9, w5.heap.size = b9 := ⟨_, rfl⟩
 rw [hb9] at D9 ⊢
 clear hb9
 have F3 := Lib.hid (C3.out.ext N6.out.ext)
 obtain ⟨z0, z1, z2, z3, _⟩ := four F3.out
 obtain ⟨y0, y1, y2, y3, _⟩ := four D9.out
 have hsm := rsame_any D 100 _ _ wb x x (.slice q x.l.length c) (.slice q9 x.l.length c9) (CV.out.ext N6.out.ext) L9.out (by have := HOK.out.2.2; omega)
 rw [sameR_self] at hsm
 have HSM := Lib.hid hsm
 clear hsm
 go_wp2_with fail
 clear z0 z1 z2 z3 y0 y1 y2 y3
 refine (show Calls Tryd.prog 9 _ wb _ from HSM.out).mono ?_
 rintro e w6 ⟨rfl, e6⟩
 have N7 := Lib.hid (N6.out.ext' e6)
 clear e6 N6 HSM
 go_wp2_with fail
 refine (oh_spent N7.out).mono ?_
 rintro e w7 ⟨rfl, e7⟩
 have N8 := Lib.hid (N7.out.ext' e7)
 clear e7 N7
 go_wp2_with fail
 have EZ0 := Lib.hid (E1.out.trans N8.out.ext)
 refine (works_any _ (HP.out.ext EZ0.out)).mono ?_
 rintro e wz ⟨rfl, ez⟩
 have EZ := Lib.hid (EZ0.out.trans ez)
 clear ez
 go_wp2_with fail
 go_ret
 exact ⟨rfl, EZ.out⟩
end Go.Proofs.YtlfihdcgbhdajaaDoor
