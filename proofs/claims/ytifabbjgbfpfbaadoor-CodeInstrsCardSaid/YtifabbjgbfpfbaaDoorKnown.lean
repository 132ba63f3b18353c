/- A program that does nothing, as each law of layer 18 asks it. -/
import Derived.Test.YtifabbjgbfpfbaaDoorList
namespace Go.Proofs.YtifabbjgbfpfbaaDoor
open Go.RowKit
set_option linter.unusedVariables false
set_option linter.unusedSimpArgs false

def pEnd : Pg := ⟨[⟨0, 0, [⟨35, 0, 0, 0⟩]⟩], 0, []⟩
def sEnd : ByteArray := ⟨#[102, 117, 110, 99, 32, 48, 32, 48, 10, 51, 53, 32, 48, 32, 48, 32, 48, 10]⟩
theorem dig0 : Lib.itoa 0 = [48] := by simp [Lib.itoa, Lib.decDigits]
theorem dig35 : Lib.itoa 35 = [51, 53] := by simp [Lib.itoa, Lib.decDigits]
theorem end_text : (⟨(protosL pEnd).toArray⟩ : ByteArray) = sEnd := by
  simp [protosL, protoL, headL, insL, pEnd, lineS, lineX, joinL, itS, dig0, dig35, sFunc, sEnd, Lib.join_cons, Lib.joinTail]
theorem end_chk : chkP pEnd = true := by decide +kernel
theorem nil_chk : chkP ⟨[], 0, []⟩ = false := by decide +kernel
theorem end_few : Few pEnd := ⟨by decide, by intro f hf; simp [pEnd] at hf; subst hf; decide, by decide, by decide⟩
theorem end_wide : ∀ f ∈ pEnd.ps, PrW f := by
  intro f hf
  simp [pEnd] at hf
  subst hf
  refine ⟨by simp [i64], by simp [i64], fun i hi => ?_⟩
  simp at hi
  subst hi
  constructor <;> (unfold i64; simp)
theorem nil_lies (w : World) : Lies w (.slice none 0 0) (.slice none 0 0) (.slice none 0 0) ⟨[], 0, []⟩ :=
  ⟨⟨none, 0, rfl, fun h => by cases h⟩, ⟨none, 0, rfl⟩, ⟨none, 0, rfl, fun h => by cases h⟩⟩
theorem end_lies (w : World) : Lies (((w.alloc (.cells #[.int .i64 35, .int .i64 0, .int .i64 0, .int .i64 0] 37)).alloc (.cells #[.int .i64 0, .int .i64 0, .slice (some ⟨w.heap.size, 0, none⟩) 1 1] 34)))
    (.slice (some ⟨w.heap.size + 1, 0, none⟩) 1 1) (.slice none 0 0) (.slice none 0 0) pEnd := by
  have hb : Blk ((w.alloc (.cells #[.int .i64 35, .int .i64 0, .int .i64 0, .int .i64 0] 37)).alloc (.cells #[.int .i64 0, .int .i64 0, .slice (some ⟨w.heap.size, 0, none⟩) 1 1] 34)) (w.heap.size + 1) 34 #[.int .i64 0, .int .i64 0, .slice (some ⟨w.heap.size, 0, none⟩) 1 1] := new_at (size_alloc _ _).symm _
  have hc : Blk ((w.alloc (.cells #[.int .i64 35, .int .i64 0, .int .i64 0, .int .i64 0] 37)).alloc (.cells #[.int .i64 0, .int .i64 0, .slice (some ⟨w.heap.size, 0, none⟩) 1 1] 34)) w.heap.size 37 #[.int .i64 35, .int .i64 0, .int .i64 0, .int .i64 0] := (Blk.new w _ _).alloc _
  refine ⟨⟨_, _, rfl, fun _ => ⟨_, _, rfl, fun i hi => ?_⟩⟩, ⟨none, 0, rfl⟩, ⟨none, 0, rfl, fun h => by cases h⟩⟩
  have : i = 0 := by simp [pEnd] at hi; exact hi
  subst this
  refine ⟨hb.cell 0, hb.cell 1, _, hb.cell 2, ⟨_, _, rfl, fun _ => ⟨_, _, rfl, fun j hj => ?_⟩⟩⟩
  have : j = 0 := by simp [pEnd] at hj; exact hj
  subst this
  exact ⟨hc.cell 0, hc.cell 1, hc.cell 2, hc.cell 3⟩

set_option maxRecDepth 100000 in
set_option maxHeartbeats 4000000 in
theorem known_any (w : World) (ht : Pow w) : Calls Tryd.prog 7 #[] w fun e w' => e = .returned (.bool true) ∧ Ext w w' := by
  have LI := Lib.hid (end_lies w)
  have cL := fun W (hE : Ext ((w.alloc (.cells #[.int .i64 35, .int .i64 0, .int .i64 0, .int .i64 0] 37)).alloc (.cells #[.int .i64 0, .int .i64 0, .slice (some ⟨w.heap.size, 0, none⟩) 1 1] 34)) W) =>
    list_plain pEnd _ _ _ W (ht.ext ((((Ext.refl w).alloc _).alloc _).trans hE)) (LI.out.ext hE) end_few end_wide rfl rfl (by decide) end_chk
  have cK := fun W (hE : Ext ((w.alloc (.cells #[.int .i64 35, .int .i64 0, .int .i64 0, .int .i64 0] 37)).alloc (.cells #[.int .i64 0, .int .i64 0, .slice (some ⟨w.heap.size, 0, none⟩) 1 1] 34)) W) =>
    chk_any pEnd _ _ _ W (LI.out.ext hE) end_few (by intro s hs; cases hs)
  have cN := fun W => chk_any ⟨[], 0, []⟩ (.slice none 0 0) (.slice none 0 0) (.slice none 0 0) W (nil_lies W) ⟨by decide, (by intro f hf; cases hf), by decide, by decide⟩ (by intro s hs; cases hs)
  have cC := fun W (hE : Ext ((w.alloc (.cells #[.int .i64 35, .int .i64 0, .int .i64 0, .int .i64 0] 37)).alloc (.cells #[.int .i64 0, .int .i64 0, .slice (some ⟨w.heap.size, 0, none⟩) 1 1] 34)) W) =>
    count_any pEnd.ps _ (.slice none 0 0) (.slice none 0 0) W (LI.out.ext hE).ps (by decide) end_few.nc
  rw [end_text] at cL
  rw [end_chk] at cK
  rw [nil_chk] at cN
  rw [show cntTo pEnd.ps pEnd.ps.length = 1 from by decide +kernel] at cC
  have se : sEnd.toList = [102, 117, 110, 99, 32, 48, 32, 48, 10, 51, 53, 32, 48, 32, 48, 32, 48, 10] := by rw [Lib.toList_data]; rfl
  go_enter Tryd.func7, Tryd.ntmps7
  go_wp2_with fail
  refine (cL _ ((Ext.refl _).alloc _)).mono ?_
  rintro e w1 ⟨rfl, e1⟩
  have hb := (new_at (W := (w.alloc (.cells #[.int .i64 35, .int .i64 0, .int .i64 0, .int .i64 0] 37)).alloc (.cells #[.int .i64 0, .int .i64 0, .slice (some ⟨w.heap.size, 0, none⟩) 1 1] 34)) (k := w.heap.size + 1 + 1) (by rw [size_alloc, size_alloc]) (.cells #[.slice (some ⟨w.heap.size + 1, 0, none⟩) 1 1, .slice none 0 0, .slice none 0 0] 26))
  have hb1 : Blk w1 (w.heap.size + 1 + 1) 26 #[.slice (some ⟨w.heap.size + 1, 0, none⟩) 1 1, .slice none 0 0, .slice none 0 0] := Blk.ext hb e1
  have k1 := ((Ext.refl _).alloc _).trans e1
  have b0 := hb1.cell 0
  have b1 := hb1.cell 1
  have b2 := hb1.cell 2
  simp only [List.getElem?_toArray, List.getElem?_cons_zero, List.getElem?_cons_succ] at b0 b1 b2
  have K1 := Lib.hid k1
  clear hb hb1 k1 e1
  go_wp2_with fail
  refine (cK _ K1.out).mono ?_
  rintro e w2 ⟨rfl, e2⟩
  replace b0 := e2.cell b0
  replace b1 := e2.cell b1
  replace b2 := e2.cell b2
  have K2 := Lib.hid (K1.out.trans e2)
  clear e2
  go_wp2_with fail
  refine (cN _).mono ?_
  rintro e w3 ⟨rfl, e3⟩
  replace b0 := e3.cell b0
  replace b1 := e3.cell b1
  replace b2 := e3.cell b2
  have K3 := Lib.hid (K2.out.trans e3)
  clear e3
  go_wp2_with fail
  refine (cC _ K3.out).mono ?_
  rintro e w4 ⟨rfl, e4⟩
  have K4 := Lib.hid ((((Ext.refl w).alloc _).alloc _).trans (K3.out.trans e4))
  clear e4 b0 b1 b2
  go_wp2_with fail
  go_ret
  exact ⟨rfl, K4.out⟩
end Go.Proofs.YtifabbjgbfpfbaaDoor
