/- A value among the arguments of a law: opened. -/
import Derived.Test.YtlfihdcgbhdajaaDoorYRtZ
import Derived.Test.YtlfihdcgbhdajaaDoorYC2
import Derived.Deep.DeepWitnessRowRef
namespace Go.Proofs.YtlfihdcgbhdajaaDoor
open Go.ChangeShapes Go.WideShapes Go.ChangeAt Go.RowKit Go.Joins Go.Deep
set_option linter.unusedVariables false
set_option linter.unusedSimpArgs false

theorem wf_in64 {n : Int} (h : (Lit.int .i64 n).wf = true) : in64 n := by
 simp [Lit.wf, IntKind.min, IntKind.max, IntKind.signed, IntKind.bits] at h
 unfold in64
 omega
theorem cellVk : Tryd.prog.cellsOf 22 = 1 := by kernel_rfl
theorem cellVv : Tryd.prog.cellsOf 24 = 3 := by kernel_rfl
theorem uVk : Tryd.prog.underlying 22 = some (.int .i64) := by kernel_rfl
theorem array3v {a : Array Value} (h : a.size = 3) : ∃ x y z, a = #[x, y, z] := by
 obtain ⟨l⟩ := a
 match l, h with
 | [x, y, z], _ => exact ⟨x, y, z, rfl⟩
variable {H : Type} {enc : TypeId × Value → H} {w : World} {base : Nat} {sp : Nat → Bool} {hd : Bool}
set_option maxRecDepth 100000 in
theorem val_open {v : Value} {d : DataW H} {p : List MemPlace} {r : Reach} {b0 : Nat} (hv : Value.okWide Tryd.prog w r b0 24 v) (h : DataW.Trod enc Tryd.prog w base sp hd 24 v d p) : ∃ x : Vl, v = x.v := by
 obtain ⟨cs, rfl, hsz⟩ := okWide_struct Tryd.underlying24 hv
 obtain ⟨c0, c1, c2, rfl⟩ := array3v (hsz.trans cellVv)
 obtain ⟨fuel, hf⟩ := h
 obtain ⟨y0, y1, y2, m, _, _, h0, h1, h2⟩ := trod_struct3 Tryd.underlying24 (by simpa [Value.cells] using hf)
 obtain ⟨k, e0, _, wk⟩ := DataW.trod_int uVk h0
 obtain ⟨a, e1, _, wa⟩ := DataW.trod_int uInt h1
 obtain ⟨s, e2, _, ws⟩ := DataW.trod_string uStr h2
 simp only [cellVk, cell_int64, cell_text, List.drop_zero, List.drop_succ_cons, List.take_succ_cons, List.take_zero, List.cons.injEq, and_true] at e0 e1 e2
 exact ⟨⟨k, a, s⟩, by rw [e0, e1, e2]⟩
end Go.Proofs.YtlfihdcgbhdajaaDoor
