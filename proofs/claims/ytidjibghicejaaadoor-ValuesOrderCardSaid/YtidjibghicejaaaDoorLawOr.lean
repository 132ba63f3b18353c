/- The row of ValuesOrder: what it asks, out of the walks. -/
import Derived.Test.YtidjibghicejaaaDoorLawO2
import Derived.Test.YtidjibghicejaaaDoorLawO3
import Derived.Test.YtidjibghicejaaaDoorLawO4
import Derived.Test.YtidjibghicejaaaDoorOrdP
import Derived.Test.YtidjibghicejaaaDoorLawG
namespace Go.Proofs.YtidjibghicejaaaDoor.valuesOrder
open Go.ChangeShapes Go.WideShapes Go.ChangeAt Go.RowKit Go.Joins Go.Deep Go.ChangeMaps
set_option linter.unusedVariables false
set_option linter.unusedSimpArgs false

theorem law_all (a b : Vl) (w : World) (ht : Pow w) (a1 : -9223372036854775808 ≤ a.n ∧ a.n ≤ 9223372036854775807) (b1 : -9223372036854775808 ≤ b.n ∧ b.n ≤ 9223372036854775807)
    (ha : a.s.size ≤ 9223372036854775807) (hb : b.s.size ≤ 9223372036854775807) :
    Calls Tryd.prog 4 #[a.v, b.v] w fun e w' => e = .returned (.bool true) ∧ Ext w w' := by
  cases hl : (decide (500 < (a.s.size : Int)) || decide (500 < (b.s.size : Int)))
  rotate_left
  · exact vord_long a b w ht ha hb hl
  have h1 : ¬ 500 < (a.s.size : Int) := by intro h; simp [h] at hl
  have h2 : ¬ 500 < (b.s.size : Int) := by intro h; simp [h] at hl
  have fa : Fits a := ⟨a1.1, a1.2, by omega⟩
  have fb : Fits b := ⟨b1.1, b1.2, by omega⟩
  obtain ⟨k1, n1, s1⟩ := a
  obtain ⟨k2, n2, s2⟩ := b
  cases ca : Vl.ck ⟨k1, n1, s1⟩
  · obtain ⟨z5, z9, z7⟩ := ord_bad ⟨k1, n1, s1⟩ ⟨k2, n2, s2⟩ (.inl ca)
    exact vord_bad1 k1 k2 n1 n2 s1 s2 w ht fa fb ca hl .zero z5 z9 z7
  cases cb : Vl.ck ⟨k2, n2, s2⟩
  · obtain ⟨z5, z9, z7⟩ := ord_bad ⟨k1, n1, s1⟩ ⟨k2, n2, s2⟩ (.inr cb)
    exact vord_bad2 k1 k2 n1 n2 s1 s2 w ht fa fb ca cb hl .zero z5 z9 z7
  by_cases hk : k1 = k2
  · subst hk
    by_cases h2 : k1 = 2
    · subst h2
      obtain ⟨lt, eq, gt, ho, z5, z9, z7, z6, z8⟩ := ord_2 n1 n2 s1 s2 ca cb
      exact vord_2 n1 n2 s1 s2 w ht fa fb ca cb hl lt eq gt ho z5 z9 z7 z6 z8
    by_cases h3 : k1 = 3
    · subst h3
      obtain ⟨lt, eq, gt, ho, z5, z9, z7, z6, z8⟩ := ord_3 n1 n2 s1 s2 ca cb
      exact vord_3 n1 n2 s1 s2 w ht fa fb ca cb hl lt eq gt ho z5 z9 z7 z6 z8
    obtain ⟨v, z5, z9, z7⟩ := ord_odd ⟨k1, n1, s1⟩ ⟨k1, n2, s2⟩ ca cb (fun h => h2 h.1) (fun h => h3 h.1)
    exact vord_odd k1 n1 n2 s1 s2 w ht fa fb ca cb (by simpa using h2) (by simpa using h3) (by simp) hl v z5 z9 z7
  · obtain ⟨v, z5, z9, z7⟩ := ord_odd ⟨k1, n1, s1⟩ ⟨k2, n2, s2⟩ ca cb (fun h => hk (h.1.trans h.2.symm)) (fun h => hk (h.1.trans h.2.symm))
    exact vord_kinds k1 k2 n1 n2 s1 s2 w ht fa fb ca cb (by simpa using hk) (by simpa using hk) hl v z5 z9 z7

variable {H : Type} {enc : TypeId × Value → H} {w : World} {base : Nat} {sp : Nat → Bool} {hd : Bool}
set_option maxRecDepth 100000 in
theorem contract (H : Type) (enc : TypeId × Value → H) (W : World) (base : Nat) (args : Array Value) (ds gs : List (DataW H)) (before : List MemPlace)
    (hval : ∀ (j : Nat) t v, Tryd.f4.params[j]? = some t → args[j]? = some v → Value.okWide Tryd.prog W .any base t v)
    (hW : DataW.Whole enc Tryd.prog Tryd.f4.params.toList Rows.valuesOrderSpec.vars false W args.toList ds gs before) (hL : laidMetH Tryd.prog Rows.valuesOrderRow.laid W) :
    Calls Tryd.prog 4 args W fun e W' => ∃ v, e = .returned v ∧ Rows.valuesOrderSpec.post enc Tryd.prog Tryd.f4 false true false false W args v W' := by
  have hW' := hW
  obtain ⟨p, q, hA0, hV, rfl, hfz, hnd⟩ := hW
  have hA : DataW.TrodAll enc Tryd.prog W 0 (fun _ => true) true Tryd.f4.params.toList args.toList ds p := hA0
  rw [Tryd.params4] at hA hval
  obtain ⟨v0, vs0, d0, ds0, p0, q0, hargs, rfl, rfl, h0, r0⟩ := trodAll_cons hA
  obtain ⟨v1, vs1, d1, ds1, p1, q1, rfl, rfl, rfl, h1, r1⟩ := trodAll_cons r0
  obtain ⟨rfl, rfl, rfl⟩ := trodAll_nil r1
  obtain rfl : args = #[v0, v1] := by cases args; simp_all
  obtain ⟨rfl, rfl⟩ := trodVars_none hV
  obtain ⟨a, rfl, ak, an, as', rfl, rfl⟩ := val_arg (hval 0 _ v0 rfl rfl) h0
  obtain ⟨b, rfl, bk, bn, bs, rfl, rfl⟩ := val_arg (hval 1 _ v1 rfl rfl) h1
  clear hA0
  simp only [List.append_nil] at hW'
  have mx : maxLen ≤ 9223372036854775807 := by decide
  refine (law_all a b W (pow_of_laid hL) (i64_range an) (i64_range bn) (Nat.le_trans as' mx) (Nat.le_trans bs mx)).mono fun e W' ⟨he, hg⟩ => ?_
  subst he
  exact ⟨_, rfl, post_plain hW' (fun _ _ _ => trodAll_cons_mk (shut_bool Tryd.underlying4 _) trodAll_mk0)
    (fun _ => trodAll_cons_mk (p := []) (val_trod a ak an as') (trodAll_cons_mk (p := []) (val_trod b bk bn bs) trodAll_mk0)) (fun _ => rfl)
    hg (ok_one (by kernel_rfl) rfl (okWide_bool_mk Tryd.underlying4 _))⟩
end Go.Proofs.YtidjibghicejaaaDoor.valuesOrder
