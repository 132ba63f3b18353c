/- What the rows list, and values among the arguments: opened, shut. -/
import Derived.Test.YtidjibghicejaaaDoorCards
import Derived.Test.YtidjibghicejaaaDoorTie
import Derived.Test.YtidjibghicejaaaDoorValL
import Derived.WalkKit
import Derived.ProofKit
import Derived.OpenShut
import Derived.Deep.DeepHandedRow
import Derived.Lib.LaidTab
import Derived.Lib.SmallJoins
import Derived.Lay
import Derived.LaidSub
import Derived.ShutString
import Derived.Deep.Strs
import Derived.ChangeSame
namespace Go.Proofs.YtidjibghicejaaaDoor
open Go.ChangeShapes Go.WideShapes Go.ChangeAt Go.RowKit Go.Joins Go.Deep
set_option linter.unusedVariables false
set_option linter.unusedSimpArgs false

abbrev laid3 : List (String × DataW Unit) := [("math/bits.deBruijn32tab", Rows.laid_math_bits_deBruijn32tab), ("math/bits.deBruijn64tab", Rows.laid_math_bits_deBruijn64tab), ("internal/strconv.uint64pow10", Rows.laid_internal_strconv_uint64pow10)]
theorem own : ownKnob Tryd.prog.godebug = none := by kernel_rfl
theorem pow_of_laid {W : World} (h : laidMetH Tryd.prog laid3 W) : Pow W :=
  Lib.tabIs_of_head (t := 141) (e := 115) (n := 20) (rest := []) powG (by kernel_rfl) (by kernel_rfl) (by kernel_rfl) (by kernel_rfl) (by kernel_rfl) (laidMetH.filter (fun x => x.1 == "internal/strconv.uint64pow10") h)
theorem laid3_met (os : Os) (args : Array Value) : laidMet Tryd.prog laid3 ((World.laidAll Tryd.prog os laid3).forCall (fun _ _ => 0) ⟨#[], args, []⟩).memory :=
  laidMet_laidAll args (by kernel_rfl) (by kernel_rfl)

theorem i64_range {n : Int} (h : (Lit.int .i64 n).wf = true) : -9223372036854775808 ≤ n ∧ n ≤ 9223372036854775807 := by
  simp [Lit.wf, IntKind.min, IntKind.max, IntKind.signed, IntKind.bits] at h
  omega
theorem cellsK : Tryd.prog.cellsOf 22 = 1 := by kernel_rfl
theorem cellsI : Tryd.prog.cellsOf 2 = 1 := by kernel_rfl
theorem cellsT : Tryd.prog.cellsOf 9 = 1 := by kernel_rfl
theorem uK : Tryd.prog.underlying 22 = some (.int .i64) := by kernel_rfl
theorem uI : Tryd.prog.underlying 2 = some (.int .i64) := by kernel_rfl
theorem uT : Tryd.prog.underlying 9 = some .string := by kernel_rfl
theorem cells24 : Tryd.prog.cellsOf 24 = 3 := by kernel_rfl
variable {H : Type} {enc : TypeId × Value → H}
/-- What is asked behind the call, where no argument holds a place: only new blocks were made. -/
theorem post_plain {P : Program} {f : Func} {s : ChangeSpec} {apart fresh handsOn again : Bool} {W W' : World} {args : Array Value} {v : Value} {ds gs : List (DataW H)}
    (hW : DataW.Whole enc P f.params.toList s.vars apart W args.toList ds gs [])
    (hres : ∀ (b : Nat) (sp : Nat → Bool) (hd : Bool), DataW.TrodAll enc P W' b sp hd f.resultTypes.toList (v.resultList f.resultTypes.size) (s.fn H (ds ++ gs)).results [])
    (hargs : ∀ sp : Nat → Bool, DataW.TrodAll enc P W' 0 sp true f.params.toList args.toList (s.fn H (ds ++ gs)).args [])
    (hvars : ∀ sp : Nat → Bool, DataW.TrodVars enc P W' sp s.vars (s.fn H (ds ++ gs)).vars [])
    (he : Ext W W')
    (hok : ∀ (j : Nat) (t : TypeId) (r : Value), f.resultTypes[j]? = some t → (v.resultList f.resultTypes.size)[j]? = some r → Value.okWide P W' .any 0 t r) :
    s.post enc P f apart fresh handsOn again W args v W' :=
  ⟨ds, gs, [], [], [], [], hW, hres _ _ _, hargs _, hvars _, Below.frame he _, fun _ => ⟨hok, _, _, ([] ++ []) ++ [], ⟨[] ++ [], [], trodAll_append (hargs _) (hres _ _ _), hvars _, rfl, fun _ _ hp => (by simp at hp), fun _ => (by simp)⟩, fun p hp => (by simp at hp)⟩⟩

variable {w : World} {base : Nat} {sp : Nat → Bool} {hd : Bool}
/-- A value's three cells, read. -/
theorem val_open {n : Nat} {c0 c1 c2 : Value} {y : DataW H × List MemPlace} (h : DataW.trod enc Tryd.prog w base sp hd n 24 [c0, c1, c2] = some y) :
    ∃ x : Vl, c0 = .int .i64 x.k ∧ c1 = .int .i64 x.n ∧ c2 = .string x.s ∧ (Lit.int .i64 x.k).wf = true ∧ (Lit.int .i64 x.n).wf = true ∧ x.s.size ≤ maxLen ∧ y = (.agg [.lit (.int .i64 x.k), .lit (.int .i64 x.n), .lit (.string x.s.data.toList)], []) := by
  obtain ⟨y0, y1, y2, m, rfl, _, h0, h1, h2⟩ := trod_struct3 Tryd.underlying24 h
  obtain ⟨k, e0, rfl, wk⟩ := DataW.trod_int (by kernel_rfl : Tryd.prog.underlying _ = some (.int .i64)) h0
  obtain ⟨a, e1, rfl, wa⟩ := DataW.trod_int (by kernel_rfl : Tryd.prog.underlying _ = some (.int .i64)) h1
  obtain ⟨s, e2, rfl, ws⟩ := DataW.trod_string (by kernel_rfl : Tryd.prog.underlying _ = some .string) h2
  simp only [cellsK, cellsI, cellsT, List.drop_zero, List.drop_succ_cons, List.take_succ_cons, List.take_zero, List.cons.injEq, and_true] at e0 e1 e2
  exact ⟨⟨k, a, s⟩, e0, e1, e2, wk, wa, ws, rfl⟩
/-- .. and read again. -/
theorem val_shut (x : Vl) (wk : (Lit.int .i64 x.k).wf = true) (wa : (Lit.int .i64 x.n).wf = true) (ws : x.s.size ≤ maxLen) :
    DataW.trod enc Tryd.prog w base sp hd 2 24 [.int .i64 x.k, .int .i64 x.n, .string x.s] = some (.agg [.lit (.int .i64 x.k), .lit (.int .i64 x.n), .lit (.string x.s.data.toList)], []) :=
  trod_struct3_mk (y0 := (.lit (.int .i64 x.k), [])) (y1 := (.lit (.int .i64 x.n), [])) (y2 := (.lit (.string x.s.data.toList), [])) Tryd.underlying24 cells24.symm
    (by simp [cellsK, DataW.trod, uK, wk]) (by simp [cellsI, DataW.trod, uI, wa]) (by simp [cellsT, DataW.trod, uT, ws])
theorem val_trod (x : Vl) (wk : (Lit.int .i64 x.k).wf = true) (wa : (Lit.int .i64 x.n).wf = true) (ws : x.s.size ≤ maxLen) :
    DataW.Trod enc Tryd.prog w base sp hd 24 x.v (.agg [.lit (.int .i64 x.k), .lit (.int .i64 x.n), .lit (.string x.s.data.toList)]) [] := ⟨2, val_shut x wk wa ws⟩
set_option maxRecDepth 100000 in
theorem val_arg {v : Value} {d : DataW H} {p : List MemPlace} {r : Reach} {b0 : Nat} (hv : Value.okWide Tryd.prog w r b0 24 v) (h : DataW.Trod enc Tryd.prog w base sp hd 24 v d p) :
    ∃ x : Vl, v = x.v ∧ (Lit.int .i64 x.k).wf = true ∧ (Lit.int .i64 x.n).wf = true ∧ x.s.size ≤ maxLen ∧ d = .agg [.lit (.int .i64 x.k), .lit (.int .i64 x.n), .lit (.string x.s.data.toList)] ∧ p = [] := by
  obtain ⟨cs, rfl, hsz⟩ := okWide_struct Tryd.underlying24 hv
  obtain ⟨c0, c1, c2, rfl⟩ := array3 (hsz.trans cells24)
  obtain ⟨fuel, hf⟩ := h
  obtain ⟨x, rfl, rfl, rfl, wk, wa, ws, he⟩ := val_open (by simpa [Value.cells] using hf)
  cases he
  exact ⟨x, rfl, wk, wa, ws, rfl, rfl⟩
end Go.Proofs.YtidjibghicejaaaDoor
