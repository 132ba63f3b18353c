/- The row of ValuesOp, and its card. -/
import Derived.Test.YtidjibghicejaaaDoorLawE
import Derived.Test.YtidjibghicejaaaDoorLawG
namespace Go.Proofs.YtidjibghicejaaaDoor.valuesOp
open Go.ChangeShapes Go.WideShapes Go.ChangeAt Go.RowKit Go.Joins Go.Deep Go.ChangeMaps
set_option linter.unusedVariables false
set_option linter.unusedSimpArgs false

theorem law_all (o : ByteArray) (a b : Vl) (n : Int) (w : World) (ht : Pow w) (ho : o.size ≤ 9223372036854775807) (a1 : -9223372036854775808 ≤ a.n ∧ a.n ≤ 9223372036854775807) (b1 : -9223372036854775808 ≤ b.n ∧ b.n ≤ 9223372036854775807)
    (ha : a.s.size ≤ 9223372036854775807) (hb : b.s.size ≤ 9223372036854775807) (hn0 : -9223372036854775808 ≤ n) :
    Calls Tryd.prog 3 (opArgs o a b n) w fun e w' => e = .returned (.bool true) ∧ Ext w w' := by
  cases hl : (decide (500 < (a.s.size : Int)) || decide (500 < (b.s.size : Int)))
  · cases hq : decide (500 < (o.size : Int))
    · cases hn : decide (1000 < n)
      · have h1 : ¬ 500 < (a.s.size : Int) := by intro h; simp [h] at hl
        have h2 : ¬ 500 < (b.s.size : Int) := by intro h; simp [h] at hl
        exact vop_main o a b n w ht ⟨a1.1, a1.2, by omega⟩ ⟨b1.1, b1.2, by omega⟩ hn0 ho hl hq hn
      · exact vop_cells o a b n w ht ha hb ho hl hq hn
    · exact vop_op o a b n w ht ha hb ho hl hq
  · exact vop_long o a b n w ht ha hb hl

theorem cells26 : Tryd.prog.cellsOf 26 = 6 := by kernel_rfl
theorem array6 {α : Type} {cs : Array α} (h : cs.size = 6) : ∃ c0 c1 c2 c3 c4 c5, cs = #[c0, c1, c2, c3, c4, c5] := by
  obtain ⟨l⟩ := cs
  match l, h with
  | [c0, c1, c2, c3, c4, c5], _ => exact ⟨c0, c1, c2, c3, c4, c5, rfl⟩
abbrev two (a b : Vl) : Value := .agg #[.int .i64 a.k, .int .i64 a.n, .string a.s, .int .i64 b.k, .int .i64 b.n, .string b.s]
abbrev valD {H : Type} (x : Vl) : DataW H := .agg [.lit (.int .i64 x.k), .lit (.int .i64 x.n), .lit (.string x.s.data.toList)]
structure Wf (x : Vl) : Prop where
  k : (Lit.int .i64 x.k).wf = true
  n : (Lit.int .i64 x.n).wf = true
  s : x.s.size ≤ maxLen
variable {H : Type} {enc : TypeId × Value → H} {w : World} {base : Nat} {sp : Nat → Bool} {hd : Bool}
set_option maxRecDepth 100000 in
theorem two_open {v : Value} {d : DataW H} {p : List MemPlace} {r : Reach} {b0 : Nat} (hv : Value.okWide Tryd.prog w r b0 26 v) (h : DataW.Trod enc Tryd.prog w base sp hd 26 v d p) :
    ∃ a b : Vl, v = two a b ∧ Wf a ∧ Wf b ∧ d = .agg [valD a, valD b] ∧ p = [] := by
  obtain ⟨cs, rfl, hsz⟩ := okWide_struct Tryd.underlying26 hv
  obtain ⟨c0, c1, c2, c3, c4, c5, rfl⟩ := array6 (hsz.trans cells26)
  obtain ⟨fuel, hf⟩ := h
  obtain ⟨y0, y1, n, hx, _, h0, h1⟩ := trod_struct2 Tryd.underlying26 hf
  simp only [Value.cells, cells24, List.drop_zero, List.drop_succ_cons, List.take_succ_cons, List.take_zero] at h0 h1
  obtain ⟨a, rfl, rfl, rfl, ak, an, as', rfl⟩ := val_open h0
  obtain ⟨b, rfl, rfl, rfl, bk, bn, bs, rfl⟩ := val_open h1
  cases hx
  exact ⟨a, b, rfl, ⟨ak, an, as'⟩, ⟨bk, bn, bs⟩, rfl, rfl⟩
theorem two_shut {a b : Vl} (wa : Wf a) (wb : Wf b) : DataW.Trod enc Tryd.prog w base sp hd 26 (two a b) (.agg [valD a, valD b]) [] :=
  ⟨3, trod_struct2_mk (y0 := (valD a, [])) (y1 := (valD b, [])) Tryd.underlying26 (by rw [cells26]; rfl) (by simp only [Value.cells, cells24, List.drop_zero, List.take_succ_cons, List.take_zero]; exact val_shut a wa.k wa.n wa.s)
    (by simp only [Value.cells, cells24, List.drop_zero, List.drop_succ_cons, List.take_succ_cons, List.take_zero]; exact val_shut b wb.k wb.n wb.s)⟩

set_option maxRecDepth 100000 in
theorem contract (H : Type) (enc : TypeId × Value → H) (W : World) (base : Nat) (args : Array Value) (ds gs : List (DataW H)) (before : List MemPlace)
    (hval : ∀ (j : Nat) t v, Tryd.f3.params[j]? = some t → args[j]? = some v → Value.okWide Tryd.prog W .any base t v)
    (hW : DataW.Whole enc Tryd.prog Tryd.f3.params.toList Rows.valuesOpSpec.vars false W args.toList ds gs before) (hL : laidMetH Tryd.prog Rows.valuesOpRow.laid W) :
    Calls Tryd.prog 3 args W fun e W' => ∃ v, e = .returned v ∧ Rows.valuesOpSpec.post enc Tryd.prog Tryd.f3 false true false false W args v W' := by
  have hW' := hW
  obtain ⟨p, q, hA0, hV, rfl, hfz, hnd⟩ := hW
  have hA : DataW.TrodAll enc Tryd.prog W 0 (fun _ => true) true Tryd.f3.params.toList args.toList ds p := hA0
  rw [Tryd.params3] at hA hval
  obtain ⟨v0, vs0, d0, ds0, p0, q0, hargs, rfl, rfl, h0, r0⟩ := trodAll_cons hA
  obtain ⟨v1, vs1, d1, ds1, p1, q1, rfl, rfl, rfl, h1, r1⟩ := trodAll_cons r0
  obtain ⟨v2, vs2, d2, ds2, p2, q2, rfl, rfl, rfl, h2, r2⟩ := trodAll_cons r1
  obtain ⟨rfl, rfl, rfl⟩ := trodAll_nil r2
  obtain rfl : args = #[v0, v1, v2] := by cases args; simp_all
  obtain ⟨rfl, rfl⟩ := trodVars_none hV
  obtain ⟨o, rfl, rfl, rfl, wo⟩ := open_string uT (hval 0 _ v0 rfl rfl) h0
  obtain ⟨a, b, rfl, wa, wb, rfl, rfl⟩ := two_open (hval 1 _ v1 rfl rfl) h1
  obtain ⟨n, rfl, rfl, rfl, wn⟩ := open_int (show Tryd.prog.underlying 3 = some (.int .i64) by kernel_rfl) (hval 2 _ v2 rfl rfl) h2
  clear hA0
  simp only [List.append_nil] at hW'
  have mx : maxLen ≤ 9223372036854775807 := by decide
  refine (law_all o a b n W (pow_of_laid hL) (Nat.le_trans wo mx) (i64_range wa.n) (i64_range wb.n) (Nat.le_trans wa.s mx) (Nat.le_trans wb.s mx) (i64_range wn).1).mono fun e W' ⟨he, hg⟩ => ?_
  subst he
  exact ⟨_, rfl, post_plain hW' (fun _ _ _ => trodAll_cons_mk (shut_bool Tryd.underlying4 _) trodAll_mk0)
    (fun _ => trodAll_cons_mk (p := []) (shut_string uT wo) (trodAll_cons_mk (p := []) (two_shut wa wb) (trodAll_cons_mk (p := []) (shut_int (by kernel_rfl) wn) trodAll_mk0))) (fun _ => rfl)
    hg (ok_one (by kernel_rfl) rfl (okWide_bool_mk Tryd.underlying4 _))⟩
end Go.Proofs.YtidjibghicejaaaDoor.valuesOp
