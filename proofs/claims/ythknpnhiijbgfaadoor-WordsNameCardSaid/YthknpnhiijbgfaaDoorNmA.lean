/- WordsName's walk. -/
import Derived.Test.YthknpnhiijbgfaaDoorWdQ
namespace Go.Proofs.YthknpnhiijbgfaaDoor
open Go.RowKit
set_option linter.unusedVariables false
set_option linter.unusedSimpArgs false

set_option maxRecDepth 100000 in
set_option maxHeartbeats 1000000 in
theorem law_name (w : World) (s : ByteArray) (hL : Laid w) : Calls Tryd.prog 4 #[.string s] w fun e w' => e = .returned (.bool true) ∧ Ext w w' := by
  have HL := Lib.hid hL
  clear hL
  by_cases h : 300 < s.size
  · have d1 : decide ((300 : Int) < (s.size : Int)) = true := decide_eq_true (by omega)
    have d1n : decide (300 < s.size) = true := decide_eq_true h
    go_enter Tryd.func4, Tryd.ntmps4
    go_wp2_with fail
    refine (known_any _ HL.out).mono ?_
    rintro e w1 ⟨rfl, he⟩
    have HE := Lib.hid he
    clear he
    go_wp2_with fail
    go_ret
    exact ⟨rfl, HE.out⟩
  · have d1 : decide ((300 : Int) < (s.size : Int)) = false := decide_eq_false (by omega)
    have d1n : decide (300 < s.size) = false := decide_eq_false h
    go_enter Tryd.func4, Tryd.ntmps4
    go_wp2_with fail
    refine (name_any _ s HL.out.asc).mono ?_
    rintro e w1 ⟨rfl, he⟩
    have HE1 := Lib.hid he
    clear he
    go_wp2_with fail
    refine (rname_any _ s).mono ?_
    rintro e w2 ⟨rfl, he⟩
    have HE2 := Lib.hid he
    clear he
    obtain ⟨b, hb⟩ : ∃ b, nameP s.data.toList = b := ⟨_, rfl⟩
    rw [hb]
    have hbb : (b == b) = true := by simp
    clear hb
    go_wp2_with fail
    refine (known_any _ ((HL.out.ext HE1.out).ext HE2.out)).mono ?_
    rintro e w3 ⟨rfl, he⟩
    have HE3 := Lib.hid he
    clear he
    go_wp2_with fail
    go_ret
    exact ⟨rfl, (HE1.out.trans HE2.out).trans HE3.out⟩
end Go.Proofs.YthknpnhiijbgfaaDoor
