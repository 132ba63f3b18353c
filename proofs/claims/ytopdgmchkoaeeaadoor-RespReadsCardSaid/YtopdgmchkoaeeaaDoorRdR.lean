/- The row of RespReads: what it asks, out of the walk. -/
import Derived.Test.YtopdgmchkoaeeaaDoorRdO
namespace Go.Proofs.YtopdgmchkoaeeaaDoor.respReads
open Go.ChangeShapes Go.WideShapes Go.ChangeAt Go.RowKit Go.Joins Go.Deep Go.ChangeMaps
set_option linter.unusedVariables false
set_option linter.unusedSimpArgs false

set_option maxRecDepth 100000 in
theorem contract (H : Type) (enc : TypeId × Value → H) (W : World) (base : Nat) (args : Array Value) (ds gs : List (DataW H)) (before : List MemPlace)
    (hval : ∀ (j : Nat) t v, Tryd.f6.params[j]? = some t → args[j]? = some v → Value.okWide Tryd.prog W .any base t v)
    (hW : DataW.Whole enc Tryd.prog Tryd.f6.params.toList Rows.respReadsSpec.vars false W args.toList ds gs before) (hR : (DataW.weightsEach Tryd.prog (Tryd.f6.params.toList ++ []) (ds ++ gs)).all (· ≤ reachBytes) = true) (hL : laidMetH Tryd.prog Rows.respReadsRow.laid W) :
    Calls Tryd.prog 6 args W fun e W' => ∃ v, e = .returned v ∧ Rows.respReadsSpec.post enc Tryd.prog Tryd.f6 false true false false W args v W' := by
  have hW' := hW
  obtain ⟨p, q, hA0, hV, rfl, hfz, hnd⟩ := hW
  have hA : DataW.TrodAll enc Tryd.prog W 0 (fun _ => true) true Tryd.f6.params.toList args.toList ds p := hA0
  rw [Tryd.params6] at hA hval hR
  obtain ⟨v0, vs0, d0, ds0, p0, p'0, hargs, rfl, rfl, t0, r0⟩ := trodAll_cons hA
  obtain ⟨rfl, rfl, rfl⟩ := trodAll_nil r0
  obtain rfl : args = #[v0] := by cases args; simp_all
  obtain ⟨rfl, rfl⟩ := trodVars_none hV
  obtain ⟨q0, c0, l0, rfl, h0, z0⟩ := pieces_open (hval 0 _ v0 rfl rfl) t0
  have hz0 : ∀ p ∈ l0, p.length ≤ 9223372036854770000 := fun p hp => by
    rcases z0 p hp with h9 | ⟨k9, hk9, h9⟩
    · omega
    · have := reach_each hR (j := 0) rfl rfl _ hk9
      omega
  clear hA0
  refine (law_reads W q0 c0 l0 h0 hz0 (pow_of_laid hL)).mono fun e W' ⟨he, hg⟩ => ?_
  subst he
  exact ⟨_, rfl, post_grown laidOut (by kernel_rfl) rfl hW' (fun _ _ _ => trodAll_cons_mk (shut_bool Tryd.underlying4 _) trodAll_mk0) rfl rfl hg⟩
end Go.Proofs.YtopdgmchkoaeeaaDoor.respReads
