/- A sum that is known. -/
import Derived.Test.YtidjibghicejaaaDoorLawA
import Derived.Test.YtidjibghicejaaaDoorLawB
import Derived.Test.YtidjibghicejaaaDoorLawC
namespace Go.Proofs.YtidjibghicejaaaDoor
open Go.RowKit
set_option linter.unusedVariables false
set_option linter.unusedSimpArgs false

theorem plus_23 (g : Nat) (tv : Value) (w : World) (h : HB w g tv 10 0) (ht : Pow w) :
    Calls Tryd.prog 11 #[.pointer (some ⟨g, 0, none⟩), .string ⟨#[43]⟩, vv 2 2 ⟨#[]⟩, vv 2 3 ⟨#[]⟩] w fun e w' => e = .returned (.tuple #[vv 2 5 ⟨#[]⟩, .string ⟨#[]⟩]) ∧ Only g w w' ∧ HB w' g tv 10 0 := by
  have e : opA 0 10 0 ⟨2, 2, ⟨#[]⟩⟩ ⟨2, 3, ⟨#[]⟩⟩ = (⟨2, 5, ⟨#[]⟩⟩, ⟨#[]⟩, 0) := by
    simp [opA, opR, Vl.ck, checkB, arV, arW, numV, numW, sNone, fitL, fitW, fitV, inI64]
  have := op_0 g tv 10 0 ⟨2, 2, ⟨#[]⟩⟩ ⟨2, 3, ⟨#[]⟩⟩ w h (by omega) (by omega) (by omega) ht ⟨by decide, by decide, by decide⟩ ⟨by decide, by decide, by decide⟩
  rw [e] at this
  exact this

set_option maxHeartbeats 2000000 in
theorem known_any (w : World) (ht : Pow w) : Calls Tryd.prog 8 #[] w fun e w' => e = .returned (.bool true) ∧ Ext w w' := by
  go_enter Tryd.func8, Tryd.ntmps8
  go_wp2_with fail
  refine (new_any 10 _ (by omega) (by omega)).mono ?_
  rintro e w1 ⟨rfl, hw1⟩
  have hb1 : HB w1 w.heap.size (.slice none 0 0) 10 0 := hw1 ▸ Blk.new _ _ _
  have k1 : Ext w w1 := hw1 ▸ (Ext.refl w).alloc _
  clear hw1
  go_wp2_with fail
  refine (int_any 2 _).mono ?_
  rintro e w2 ⟨rfl, he⟩
  have hb2 := hb1.ext he
  have k2 := k1.trans he
  clear he
  go_wp2_with fail
  refine (int_any 3 _).mono ?_
  rintro e w3 ⟨rfl, he⟩
  have hb3 := hb2.ext he
  have k3 := k2.trans he
  clear he
  go_wp2_with fail
  refine (plus_23 _ _ _ hb3 (ht.ext k3)).mono ?_
  rintro e w4 ⟨rfl, ho, hb4⟩
  have k4 : Ext w w4 := ho.to_ext k3 (Nat.le_refl _)
  clear ho
  have hn4 : ¬ w4.heap.size = w.heap.size := by have := hb4.lt; omega
  go_wp2_with fail
  refine (table_new _ _ (hb4.alloc _)).mono ?_
  rintro e w5 ⟨rfl, ho, tv, hb5⟩
  obtain ⟨q1, q2⟩ := ho.cells
  have hz5 := ho.lt1
  have k5 : Ext w w5 := ho.to_ext (k4.alloc _) (Nat.le_refl _)
  clear ho
  have hn5 : ¬ w5.heap.size = w.heap.size := by have := hb5.lt; omega
  have hn6 : ¬ w5.heap.size = w4.heap.size := by omega
  go_wp2_with fail
  refine (spent_any _ _ _ _ _ (hb5.alloc _)).mono ?_
  rintro e w6 ⟨rfl, he⟩
  have k6 := (k5.alloc _).trans he
  go_wp2_with fail
  go_ret
  exact ⟨rfl, k6⟩
end Go.Proofs.YtidjibghicejaaaDoor
