/- The next byte. -/
import Derived.Test.YtopdgmchkoaeeaaDoorRsA
import Derived.Deep.QuietTactic
import Derived.Deep.RegionHeld3
import Derived.Deep.DrawnRows
namespace Go.Proofs.YtopdgmchkoaeeaaDoor
open Go.RowKit
set_option linter.unusedVariables false
set_option linter.unusedSimpArgs false

set_option maxRecDepth 100000 in
theorem one_end (w : World) (g : Nat) (q : Option Addr) (cap : Nat) (l : List UInt8) (p t i : Int) (h : InAt w g q cap l p t i) (hp : ¬ p < (l.length : Int)) :
    Calls Tryd.prog 64 #[.pointer (some ⟨g, 0, none⟩)] w fun e w' => Gave 130 e ∧ Ext w w' := by
  have hd : decide (p < (l.length : Int)) = false := by simpa using hp
  have c0 := h.blk.cell 0
  have c1 := h.blk.cell 1
  have c2 := h.blk.cell 2
  have c3 := h.blk.cell 3
  simp only [List.getElem?_toArray, List.getElem?_cons_zero, List.getElem?_cons_succ] at c0 c1 c2 c3
  clear h
  go_enter Tryd.func64, Tryd.ntmps64
  go_wp2_with fail
  go_still_tail 10, (by kernel_rfl)
  change wpList _ _ _ _ _ w.drew
  generalize hw2 : w.drew = w2
  go_wp2_with fail
  refine (must_no _ _).mono ?_
  rintro e w' ⟨rfl, rfl⟩
  go_wp2_with fail
  exact ⟨rfl, rfl, hw2 ▸ (Ext.refl w).drew⟩
set_option maxRecDepth 100000 in
theorem one_ok (w : World) (g : Nat) (q : Option Addr) (cap : Nat) (l : List UInt8) (p : Nat) (t i : Int) (h : InAt w g q cap l p t i) (hp : p < l.length) :
    Calls Tryd.prog 64 #[.pointer (some ⟨g, 0, none⟩)] w fun e w' => e = .returned (.int .u8 (l[p].toNat : Int)) ∧ InAt w' g q cap l ((p + 1 : Nat) : Int) t i ∧ Only g w w' := by
  have hd : decide ((p : Int) < (l.length : Int)) = true := by simp; exact hp
  have hl := h.len
  obtain ⟨b, o, rfl, hb, cb⟩ := h.bytes p hp
  have c0 := h.blk.cell 0
  have c1 := h.blk.cell 1
  simp only [List.getElem?_toArray, List.getElem?_cons_zero, List.getElem?_cons_succ] at c0 c1
  have H := Lib.hid h
  clear h
  have k0 : (0 : Int) ≤ (p : Int) := by omega
  have k1 : (p : Int) < (l.length : Int) := by omega
  go_enter Tryd.func64, Tryd.ntmps64
  go_wp2_with fail
  go_still_tail 10, (by kernel_rfl)
  change wpList _ _ _ _ _ w.drew
  generalize hw2 : w.drew = w2
  have E2 := Lib.hid (hw2 ▸ (Ext.refl w).drew : Ext w w2)
  replace c0 := E2.out.cell c0
  replace c1 := E2.out.cell c1
  replace cb := E2.out.cell cb
  have zg := H.out.blk.frozen 1
  have zg2 : w2.frozen? ⟨g, 1, none⟩ = false := ((Ext.cells E2.out).2 g 1 H.out.lt).trans zg
  clear hw2 zg
  go_wp2_with fail
  refine (must_yes _ _).mono ?_
  rintro e w' ⟨rfl, rfl⟩
  go_wp2_with fail
  go_quiet (fail)
  go_wp2_with fail
  go_ret
  have B := ((H.out.blk.ext E2.out).set_ 1 (.int .i64 ((p : Int) + 1))).drewN nq
  have O : Only g w ((w2.setCell ⟨g, 1, none⟩ (.int .i64 ((p : Int) + 1))).drewN nq) := ((Only.of_ext E2.out).setCell (.inl rfl) _).ext ((Ext.refl _).drewN nq)
  exact ⟨rfl, H.out.put O (by simpa using B), O⟩
end Go.Proofs.YtopdgmchkoaeeaaDoor
