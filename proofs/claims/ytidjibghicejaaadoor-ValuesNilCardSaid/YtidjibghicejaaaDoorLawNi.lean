/- ValuesNil: the row's contract. -/
import Derived.Test.YtidjibghicejaaaDoorNilB
import Derived.Test.YtidjibghicejaaaDoorLawG
namespace Go.Proofs.YtidjibghicejaaaDoor.valuesNil
open Go.ChangeShapes Go.WideShapes Go.ChangeAt Go.RowKit Go.Joins Go.Deep Go.ChangeMaps
set_option linter.unusedVariables false
set_option linter.unusedSimpArgs false

theorem cells46 : Tryd.prog.cellsOf 46 = 10 := by kernel_rfl
theorem cellsN : Tryd.prog.cellsOf 3 = 1 := by kernel_rfl
theorem uN : Tryd.prog.underlying 3 = some (.int .i64) := by kernel_rfl
theorem array10 {α : Type} {cs : Array α} (h : cs.size = 10) : ∃ c0 c1 c2 c3 c4 c5 c6 c7 c8 c9, cs = #[c0, c1, c2, c3, c4, c5, c6, c7, c8, c9] := by
  obtain ⟨l⟩ := cs
  match l, h with
  | [c0, c1, c2, c3, c4, c5, c6, c7, c8, c9], _ => exact ⟨c0, c1, c2, c3, c4, c5, c6, c7, c8, c9, rfl⟩
abbrev valD {H : Type} (x : Vl) : DataW H := .agg [.lit (.int .i64 x.k), .lit (.int .i64 x.n), .lit (.string x.s.data.toList)]
structure Wf (x : Vl) : Prop where
  k : (Lit.int .i64 x.k).wf = true
  n : (Lit.int .i64 x.n).wf = true
  s : x.s.size ≤ maxLen
variable {H : Type} {enc : TypeId × Value → H} {w : World} {base : Nat} {sp : Nat → Bool} {hd : Bool}
set_option maxRecDepth 100000 in
theorem step_open {v : Value} {d : DataW H} {p : List MemPlace} {r : Reach} {b0 : Nat} (hv : Value.okWide Tryd.prog w r b0 46 v) (h : DataW.Trod enc Tryd.prog w base sp hd 46 v d p) :
    ∃ (n : Int) (a b c : Vl), v = .agg (stepC n a b c) ∧ (Lit.int .i64 n).wf = true ∧ Wf a ∧ Wf b ∧ Wf c ∧ d = .agg [.lit (.int .i64 n), valD a, valD b, valD c] ∧ p = [] := by
  obtain ⟨cs, rfl, hsz⟩ := okWide_struct Tryd.underlying46 hv
  obtain ⟨c0, c1, c2, c3, c4, c5, c6, c7, c8, c9, rfl⟩ := array10 (hsz.trans cells46)
  obtain ⟨fuel, hf⟩ := h
  obtain ⟨y0, y1, y2, y3, m, hx, _, h0, h1, h2, h3⟩ := trod_struct4 Tryd.underlying46 hf
  simp only [Value.cells, cells24, cellsN, List.drop_zero, List.drop_succ_cons, List.take_succ_cons, List.take_zero] at h0 h1 h2 h3
  obtain ⟨n, e0, rfl, wn⟩ := DataW.trod_int uN h0
  simp only [List.cons.injEq, and_true] at e0
  subst e0
  obtain ⟨a, rfl, rfl, rfl, ak, an, as', rfl⟩ := val_open h1
  obtain ⟨b, rfl, rfl, rfl, bk, bn, bs, rfl⟩ := val_open h2
  obtain ⟨c, rfl, rfl, rfl, ck, cn, cs', rfl⟩ := val_open h3
  cases hx
  exact ⟨n, a, b, c, rfl, wn, ⟨ak, an, as'⟩, ⟨bk, bn, bs⟩, ⟨ck, cn, cs'⟩, rfl, rfl⟩
theorem step_shut {n : Int} {a b c : Vl} (wn : (Lit.int .i64 n).wf = true) (wa : Wf a) (wb : Wf b) (wc : Wf c) : DataW.Trod enc Tryd.prog w base sp hd 46 (.agg (stepC n a b c)) (.agg [.lit (.int .i64 n), valD a, valD b, valD c]) [] :=
  ⟨3, trod_struct4_mk (y0 := (.lit (.int .i64 n), [])) (y1 := (valD a, [])) (y2 := (valD b, [])) (y3 := (valD c, [])) Tryd.underlying46 (by rw [cells46]; rfl)
    (by simp [Value.cells, cellsN, DataW.trod, uN, wn])
    (by simp only [Value.cells, cells24, cellsN, List.drop_zero, List.drop_succ_cons, List.take_succ_cons, List.take_zero]; exact val_shut a wa.k wa.n wa.s)
    (by simp only [Value.cells, cells24, cellsN, List.drop_zero, List.drop_succ_cons, List.take_succ_cons, List.take_zero]; exact val_shut b wb.k wb.n wb.s)
    (by simp only [Value.cells, cells24, cellsN, List.drop_zero, List.drop_succ_cons, List.take_succ_cons, List.take_zero]; exact val_shut c wc.k wc.n wc.s)⟩

set_option maxRecDepth 100000 in
theorem contract (H : Type) (enc : TypeId × Value → H) (W : World) (base : Nat) (args : Array Value) (ds gs : List (DataW H)) (before : List MemPlace)
    (hval : ∀ (j : Nat) t v, Tryd.f6.params[j]? = some t → args[j]? = some v → Value.okWide Tryd.prog W .any base t v)
    (hW : DataW.Whole enc Tryd.prog Tryd.f6.params.toList Rows.valuesNilSpec.vars false W args.toList ds gs before) (hL : laidMetH Tryd.prog Rows.valuesNilRow.laid W) :
    Calls Tryd.prog 6 args W fun e W' => ∃ v, e = .returned v ∧ Rows.valuesNilSpec.post enc Tryd.prog Tryd.f6 false true false false W args v W' := by
  have hW' := hW
  obtain ⟨p, q, hA0, hV, rfl, hfz, hnd⟩ := hW
  have hA : DataW.TrodAll enc Tryd.prog W 0 (fun _ => true) true Tryd.f6.params.toList args.toList ds p := hA0
  rw [Tryd.params6] at hA hval
  obtain ⟨v0, vs0, d0, ds0, p0, q0, hargs, rfl, rfl, h0, r0⟩ := trodAll_cons hA
  obtain ⟨v1, vs1, d1, ds1, p1, q1, rfl, rfl, rfl, h1, r1⟩ := trodAll_cons r0
  obtain ⟨rfl, rfl, rfl⟩ := trodAll_nil r1
  obtain rfl : args = #[v0, v1] := by cases args; simp_all
  obtain ⟨rfl, rfl⟩ := trodVars_none hV
  obtain ⟨n, a, b, c, rfl, wn, wa, wb, wc, rfl, rfl⟩ := step_open (hval 0 _ v0 rfl rfl) h0
  obtain ⟨o, rfl, rfl, rfl, wo⟩ := open_string uT (hval 1 _ v1 rfl rfl) h1
  clear hA0
  simp only [List.append_nil] at hW'
  have mx : maxLen ≤ 9223372036854775807 := by decide
  refine (nil_law n a b c o W (pow_of_laid hL) (Nat.le_trans wa.s mx) (Nat.le_trans wb.s mx) (Nat.le_trans wc.s mx) (Nat.le_trans wo mx) _ rfl).mono fun e W' ⟨he, hg⟩ => ?_
  subst he
  exact ⟨_, rfl, post_plain hW' (fun _ _ _ => trodAll_cons_mk (shut_bool Tryd.underlying4 _) trodAll_mk0)
    (fun _ => trodAll_cons_mk (p := []) (step_shut wn wa wb wc) (trodAll_cons_mk (p := []) (shut_string uT wo) trodAll_mk0)) (fun _ => rfl)
    hg (ok_one (by kernel_rfl) rfl (okWide_bool_mk Tryd.underlying4 _))⟩
end Go.Proofs.YtidjibghicejaaaDoor.valuesNil
