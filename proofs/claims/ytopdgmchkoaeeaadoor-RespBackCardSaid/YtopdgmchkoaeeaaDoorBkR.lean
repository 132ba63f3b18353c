/- The row of RespBack: what it asks, out of the walk. -/
import Derived.Test.YtopdgmchkoaeeaaDoorBkB
import Derived.Test.YtopdgmchkoaeeaaDoorRtZ
namespace Go.Proofs.YtopdgmchkoaeeaaDoor.respBack
open Go.ChangeShapes Go.WideShapes Go.ChangeAt Go.RowKit Go.Joins Go.Deep Go.ChangeMaps
set_option linter.unusedVariables false
set_option linter.unusedSimpArgs false

set_option maxRecDepth 100000 in
theorem contract (H : Type) (enc : TypeId × Value → H) (W : World) (base : Nat) (args : Array Value) (ds gs : List (DataW H)) (before : List MemPlace)
    (hval : ∀ (j : Nat) t v, Tryd.f11.params[j]? = some t → args[j]? = some v → Value.okWide Tryd.prog W .any base t v)
    (hW : DataW.Whole enc Tryd.prog Tryd.f11.params.toList Rows.respBackSpec.vars false W args.toList ds gs before) (hR : (DataW.weightsEach Tryd.prog (Tryd.f11.params.toList ++ []) (ds ++ gs)).all (· ≤ reachBytes) = true) (hL : laidMetH Tryd.prog Rows.respBackRow.laid W) :
    Calls Tryd.prog 11 args W fun e W' => ∃ v, e = .returned v ∧ Rows.respBackSpec.post enc Tryd.prog Tryd.f11 false true false false W args v W' := by
  have hW' := hW
  obtain ⟨p, q, hA0, hV, rfl, hfz, hnd⟩ := hW
  have hA : DataW.TrodAll enc Tryd.prog W 0 (fun _ => true) true Tryd.f11.params.toList args.toList ds p := hA0
  rw [Tryd.params11] at hA hval hR
  obtain ⟨v0, vs0, d0, ds0, p0, p'0, hargs, rfl, rfl, t0, r0⟩ := trodAll_cons hA
  obtain ⟨v1, vs1, d1, ds1, p1, p'1, rfl, rfl, rfl, t1, r1⟩ := trodAll_cons r0
  obtain ⟨v2, vs2, d2, ds2, p2, p'2, rfl, rfl, rfl, t2, r2⟩ := trodAll_cons r1
  obtain ⟨v3, vs3, d3, ds3, p3, p'3, rfl, rfl, rfl, t3, r3⟩ := trodAll_cons r2
  obtain ⟨rfl, rfl, rfl⟩ := trodAll_nil r3
  obtain rfl : args = #[v0, v1, v2, v3] := by cases args; simp_all
  obtain ⟨rfl, rfl⟩ := trodVars_none hV
  obtain ⟨l0, h0, z0⟩ := texts_open1 (hval 0 _ v0 rfl rfl) t0
  obtain ⟨x1, q1, c1, D1, rfl, h1, i1⟩ := reply_open (hval 1 _ v1 rfl rfl) t1
  obtain ⟨x2, q2, c2, D2, rfl, h2, i2⟩ := reply_open (hval 2 _ v2 rfl rfl) t2
  obtain ⟨q3, c3, l3, x3, rfl, h3⟩ := behind_open (hval 3 _ v3 rfl rfl) t3
  have hz0 : ∀ s ∈ l0, s.size ≤ 9223372036854770000 := fun s hs => by
    have := reach_each hR (j := 0) rfl rfl _ (z0 s hs)
    omega
  clear hA0
  refine (law_back W v0 l0 x1 x2 q1 q2 c1 c2 D1 D2 q3 c3 l3 x3 ⟨h0, hz0, h1, h2, i1, i2, h3, pow_of_laid hL⟩).mono fun e W' ⟨he, hg⟩ => ?_
  subst he
  exact ⟨_, rfl, post_grown laidOut (by kernel_rfl) rfl hW' (fun _ _ _ => trodAll_cons_mk (shut_bool Tryd.underlying4 _) trodAll_mk0) rfl rfl hg⟩
end Go.Proofs.YtopdgmchkoaeeaaDoor.respBack
