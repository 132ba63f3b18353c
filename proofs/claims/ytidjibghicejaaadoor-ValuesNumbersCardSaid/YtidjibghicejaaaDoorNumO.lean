/- ValuesNumbers' walk, what a drawn region leaves. -/
import Derived.Test.YtidjibghicejaaaDoorNumP
import Derived.Deep.DeepCutAuto
namespace Go.Proofs.YtidjibghicejaaaDoor
open Go.RowKit
set_option linter.unusedVariables false
set_option linter.unusedSimpArgs false
/-- Where a drawn region has laid a value. -/
def OpAt (w0 : World) (k n : Int) (t s : ByteArray) (v1 v2 : Value) (wx : World) : Prop := ∃ B, v1 = .pointer (some ⟨B, 0, none⟩) ∧ v2 = .string s ∧ Ext w0 wx ∧ Blk wx B 24 #[.int .i64 k, .int .i64 n, .string t]
theorem opAt1 {w0 w2 : World} (k n : Int) (t s : ByteArray) (he : Ext w0 w2) : OpAt w0 k n t s (.pointer (some ⟨w2.heap.size, 0, none⟩)) (.string s) (w2.alloc (.cells #[.int .i64 k, .int .i64 n, .string t] 24)) :=
  ⟨_, rfl, rfl, he.alloc _, Blk.new _ _ _⟩
theorem opAt2 {w0 w2 : World} {B : Nat} {x y z : Value} (k n : Int) (t s : ByteArray) (he : Ext w0 w2) (hb : Blk w2 B 24 #[x, y, z]) (hB : w0.heap.size ≤ B) :
    OpAt w0 k n t s (.pointer (some ⟨B, 0, none⟩)) (.string s) (((w2.setCell ⟨B, 0, none⟩ (.int .i64 k)).setCell ⟨B, 1, none⟩ (.int .i64 n)).setCell ⟨B, 2, none⟩ (.string t)) :=
  ⟨_, rfl, rfl, ((he.setCell hB _).setCell hB _).setCell hB _, ((hb.set_ 0 _).set_ 1 _).set_ 2 _⟩
theorem cell_lt' {w : World} {b o : Nat} {v : Value} (h : w.cell? ⟨b, o, none⟩ = some v) : b < w.heap.size := by
  rcases Nat.lt_or_ge b w.heap.size with hlt | hge
  · exact hlt
  · simp [World.cell?, Array.getElem?_eq_none hge] at h
theorem Ext.cell {w w' : World} (h : Ext w w') {b o : Nat} {v : Value} (hc : w.cell? ⟨b, o, none⟩ = some v) : w'.cell? ⟨b, o, none⟩ = some v :=
  (h.cells.1 b o (cell_lt' hc)).trans hc
theorem HBa {w : World} {g : Nat} {tv : Value} {c s : Int} (h : HB w g tv c s) (o : Obj) : HB (w.alloc o) g tv c s := Blk.alloc h o
end Go.Proofs.YtidjibghicejaaaDoor
