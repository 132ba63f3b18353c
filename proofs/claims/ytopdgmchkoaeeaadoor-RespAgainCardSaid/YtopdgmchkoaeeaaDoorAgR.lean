/- The row of RespAgain: what it asks, out of the walk. -/
import Derived.Test.YtopdgmchkoaeeaaDoorAgA
import Derived.Test.YtopdgmchkoaeeaaDoorRtU
namespace Go.Proofs.YtopdgmchkoaeeaaDoor
open Go.RowKit
theorem law_again (w : World) (q q2 : Option Addr) (c c2 : Nat) (l m : List UInt8) (hb : BytesAt w q c l) (hm : BytesAt w q2 c2 m) (hpw : Pow w) :
    Calls Tryd.prog 7 #[.slice q l.length c, .slice q2 m.length c2] w fun e w' => e = .returned (.bool true) ∧ Ext w w' := by
  by_cases h : 3000 < l.length ∨ 3000 < m.length
  · exact law_again_many w q q2 c c2 l m hb hm h hpw
  · exact law_again_few w q q2 c c2 l m hb hm (by omega) (by omega) hpw
end Go.Proofs.YtopdgmchkoaeeaaDoor
namespace Go.Proofs.YtopdgmchkoaeeaaDoor.respAgain
open Go.ChangeShapes Go.WideShapes Go.ChangeAt Go.RowKit Go.Joins Go.Deep Go.ChangeMaps
set_option linter.unusedVariables false
set_option linter.unusedSimpArgs false

set_option maxRecDepth 100000 in
theorem contract (H : Type) (enc : TypeId × Value → H) (W : World) (base : Nat) (args : Array Value) (ds gs : List (DataW H)) (before : List MemPlace)
    (hval : ∀ (j : Nat) t v, Tryd.f7.params[j]? = some t → args[j]? = some v → Value.okWide Tryd.prog W .any base t v)
    (hW : DataW.Whole enc Tryd.prog Tryd.f7.params.toList Rows.respAgainSpec.vars false W args.toList ds gs before) (hL : laidMetH Tryd.prog Rows.respAgainRow.laid W) :
    Calls Tryd.prog 7 args W fun e W' => ∃ v, e = .returned v ∧ Rows.respAgainSpec.post enc Tryd.prog Tryd.f7 false true false false W args v W' := by
  have hW' := hW
  obtain ⟨p, q, hA0, hV, rfl, hfz, hnd⟩ := hW
  have hA : DataW.TrodAll enc Tryd.prog W 0 (fun _ => true) true Tryd.f7.params.toList args.toList ds p := hA0
  rw [Tryd.params7] at hA hval
  obtain ⟨v0, vs0, d0, ds0, p0, q0, hargs, rfl, rfl, h0, r0⟩ := trodAll_cons hA
  obtain ⟨v1, vs1, d1, ds1, p1, q1, rfl, rfl, rfl, h1, r1⟩ := trodAll_cons r0
  obtain ⟨rfl, rfl, rfl⟩ := trodAll_nil r1
  obtain rfl : args = #[v0, v1] := by cases args; simp_all
  obtain ⟨rfl, rfl⟩ := trodVars_none hV
  obtain ⟨qa, ca, la, rfl, hba⟩ := bytes_open (hval 0 _ v0 rfl rfl) h0
  obtain ⟨qb, cb, lb, rfl, hbb⟩ := bytes_open (hval 1 _ v1 rfl rfl) h1
  clear hA0
  refine (law_again W qa qb ca cb la lb hba hbb (pow_of_laid hL)).mono fun e W' ⟨he, hg⟩ => ?_
  subst he
  exact ⟨_, rfl, post_grown laidOut (by kernel_rfl) rfl hW' (fun _ _ _ => trodAll_cons_mk (shut_bool Tryd.underlying4 _) trodAll_mk0) rfl rfl hg⟩
end Go.Proofs.YtopdgmchkoaeeaaDoor.respAgain
