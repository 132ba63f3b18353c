/- The row of ValuesNumbers: what it asks, out of the walks. -/
import Derived.Test.YtidjibghicejaaaDoorNumA
import Derived.Test.YtidjibghicejaaaDoorNumB
import Derived.Test.YtidjibghicejaaaDoorNumC
import Derived.Test.YtidjibghicejaaaDoorNumD
import Derived.Test.YtidjibghicejaaaDoorNumE
import Derived.Test.YtidjibghicejaaaDoorNumF
import Derived.Test.YtidjibghicejaaaDoorLawG
namespace Go.Proofs.YtidjibghicejaaaDoor.valuesNumbers
open Go.ChangeShapes Go.WideShapes Go.ChangeAt Go.RowKit Go.Joins Go.Deep Go.ChangeMaps
set_option linter.unusedVariables false
set_option linter.unusedSimpArgs false

theorem law_all (a b : Int) (w : World) (ht : Pow w) (ha : -9223372036854775808 ≤ a ∧ a ≤ 9223372036854775807) (hb : -9223372036854775808 ≤ b ∧ b ≤ 9223372036854775807) :
    Calls Tryd.prog 5 #[.int .i64 a, .int .i64 b] w fun e w' => e = .returned (.bool true) ∧ Ext w w' := by
  by_cases h0 : b = 0
  · exact num_zero a b w ht ha hb h0
  have hz : (b == 0) = false := by simpa using h0
  by_cases h1 : b = -1 ∧ a = -9223372036854775808
  · obtain ⟨rfl, rfl⟩ := h1
    obtain ⟨f1, f2⟩ := fit_out (n := -(-9223372036854775808)) (by omega)
    have q1 : numV 47 (-9223372036854775808) (-1) = .zero := by simp [numV]; exact f1
    have q2 : numW 47 (-9223372036854775808) (-1) = sOver := by simp [numW]; exact f2
    have r1 : numV 37 (-9223372036854775808) (-1) = I 0 := by simp [numV]; rfl
    have r2 : numW 37 (-9223372036854775808) (-1) = ⟨#[]⟩ := by simp [numW]; rfl
    by_cases hd : -9223372036854775808 ≤ (-9223372036854775808 : Int) - (-1) ∧ (-9223372036854775808 : Int) - (-1) ≤ 9223372036854775807
    · exact num_over1 _ _ w ht ha hb hz q1 q2 r1 r2 hd
    · exact num_over0 _ _ w ht ha hb hz q1 q2 r1 r2 hd
  obtain ⟨Q, R, hQ, hR, hqr, hsg, q1, q2, r1, r2⟩ := div_facts a b ha hb h0 h1
  by_cases hp : -9223372036854775808 ≤ Q * b ∧ Q * b ≤ 9223372036854775807
  · by_cases hd : -9223372036854775808 ≤ a - b ∧ a - b ≤ 9223372036854775807
    · exact num_n1_1 a b w ht ha hb hz Q R hQ hR hqr hsg q1 q2 r1 r2 hp hd
    · exact num_n1_0 a b w ht ha hb hz Q R hQ hR hqr hsg q1 q2 r1 r2 hp hd
  · by_cases hd : -9223372036854775808 ≤ a - b ∧ a - b ≤ 9223372036854775807
    · exact num_n0_1 a b w ht ha hb hz Q R hQ hR hqr hsg q1 q2 r1 r2 hp hd
    · exact num_n0_0 a b w ht ha hb hz Q R hQ hR hqr hsg q1 q2 r1 r2 hp hd

set_option maxRecDepth 100000 in
theorem contract (H : Type) (enc : TypeId × Value → H) (W : World) (base : Nat) (args : Array Value) (ds gs : List (DataW H)) (before : List MemPlace)
    (hval : ∀ (j : Nat) t v, Tryd.f5.params[j]? = some t → args[j]? = some v → Value.okWide Tryd.prog W .any base t v)
    (hW : DataW.Whole enc Tryd.prog Tryd.f5.params.toList Rows.valuesNumbersSpec.vars false W args.toList ds gs before) (hL : laidMetH Tryd.prog Rows.valuesNumbersRow.laid W) :
    Calls Tryd.prog 5 args W fun e W' => ∃ v, e = .returned v ∧ Rows.valuesNumbersSpec.post enc Tryd.prog Tryd.f5 false true false false W args v W' := by
  have hW' := hW
  obtain ⟨p, q, hA0, hV, rfl, hfz, hnd⟩ := hW
  have hA : DataW.TrodAll enc Tryd.prog W 0 (fun _ => true) true Tryd.f5.params.toList args.toList ds p := hA0
  rw [Tryd.params5] at hA hval
  obtain ⟨v0, vs0, d0, ds0, p0, q0, hargs, rfl, rfl, h0, r0⟩ := trodAll_cons hA
  obtain ⟨v1, vs1, d1, ds1, p1, q1, rfl, rfl, rfl, h1, r1⟩ := trodAll_cons r0
  obtain ⟨rfl, rfl, rfl⟩ := trodAll_nil r1
  obtain rfl : args = #[v0, v1] := by cases args; simp_all
  obtain ⟨rfl, rfl⟩ := trodVars_none hV
  obtain ⟨a, rfl, rfl, rfl, wa⟩ := open_int uI (hval 0 _ v0 rfl rfl) h0
  obtain ⟨b, rfl, rfl, rfl, wb⟩ := open_int uI (hval 1 _ v1 rfl rfl) h1
  clear hA0
  simp only [List.append_nil] at hW'
  refine (law_all a b W (pow_of_laid hL) (i64_range wa) (i64_range wb)).mono fun e W' ⟨he, hg⟩ => ?_
  subst he
  exact ⟨_, rfl, post_plain hW' (fun _ _ _ => trodAll_cons_mk (shut_bool Tryd.underlying4 _) trodAll_mk0)
    (fun _ => trodAll_cons_mk (p := []) (shut_int uI wa) (trodAll_cons_mk (p := []) (shut_int uI wb) trodAll_mk0)) (fun _ => rfl)
    hg (ok_one (by kernel_rfl) rfl (okWide_bool_mk Tryd.underlying4 _))⟩
end Go.Proofs.YtidjibghicejaaaDoor.valuesNumbers
