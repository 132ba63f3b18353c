/- WordsSame's walk. -/
import Derived.Test.YthknpnhiijbgfaaDoorWzA
import Derived.Test.YthknpnhiijbgfaaDoorWdQ
namespace Go.Proofs.YthknpnhiijbgfaaDoor
open Go.RowKit
set_option linter.unusedVariables false
set_option linter.unusedSimpArgs false

theorem alike_self : ∀ l : List Wd, alikeL l l = true
  | [] => rfl
  | a :: l => by rw [alikeL, alike_self l]; simp [alikeW]
set_option maxRecDepth 100000 in
set_option maxHeartbeats 1000000 in
theorem law_same (w : World) (v u : Value) (l m : List Wd) (hL : Laid w) (hv : WordsAt w v l) (hu : WordsAt w u m) (hlen : l.length ≤ 9223372036854775807) (hlen' : m.length ≤ 9223372036854775807) (hb : ∀ x ∈ l, x.t.length ≤ 140737488355328) (hb' : ∀ x ∈ m, x.t.length ≤ 140737488355328) :
    Calls Tryd.prog 5 #[v, u] w fun e w' => e = .returned (.bool true) ∧ Ext w w' := by
  have HL := Lib.hid hL
  have HV := Lib.hid hv
  have HU := Lib.hid hu
  have HB := Lib.hid hb'
  have H1 := Lib.hid (heavy_any w v l hv hb hlen)
  have HM := Lib.hid hlen'
  clear hL hv hu hb hb' hlen hlen'
  go_enter Tryd.func5, Tryd.ntmps5
  go_wp2_with fail
  refine H1.out.mono ?_
  rintro e w1 ⟨⟨b, rfl, hl⟩, he⟩
  have HE1 := Lib.hid he
  have HA1 := Lib.hid hl
  clear he hl
  cases b
  · go_wp2_with fail
    refine (heavy_any w1 u m (HU.out.ext HE1.out) HB.out HM.out).mono ?_
    rintro e w2 ⟨⟨b, rfl, hl⟩, he⟩
    have HE2 := Lib.hid (HE1.out.trans he)
    have HA2 := Lib.hid hl
    clear he hl
    cases b
    · have hl1 := (HA1.out (by first | rfl | trivial)).1
      have hl2 := (HA2.out (by first | rfl | trivial)).1
      go_wp2_with fail
      refine (same_any w2 v u l m (HV.out.ext HE2.out) (HU.out.ext HE2.out) (by omega) (by omega)).mono ?_
      rintro e w3 ⟨rfl, he⟩
      have HE3 := Lib.hid (HE2.out.trans he)
      clear he
      obtain ⟨r, hr⟩ : ∃ r, alikeL l m = r := ⟨_, rfl⟩
      rw [hr]
      have HR := Lib.hid hr
      clear hr
      go_wp2_with fail
      refine (rsame_any w3 v u l m (HV.out.ext HE3.out) (HU.out.ext HE3.out) (by omega) (by omega)).mono ?_
      rintro e w4 ⟨rfl, he⟩
      have HE4 := Lib.hid (HE3.out.trans he)
      clear he
      rw [HR.out]
      have hrr : (r == r) = true := by simp
      go_wp2_with fail
      refine (same_any w4 v v l l (HV.out.ext HE4.out) (HV.out.ext HE4.out) (by omega) (by omega)).mono ?_
      rintro e w5 ⟨rfl, he⟩
      have HE5 := Lib.hid (HE4.out.trans he)
      clear he
      rw [alike_self]
      go_wp2_with fail
      refine (known_any w5 (HL.out.ext HE5.out)).mono ?_
      rintro e w6 ⟨rfl, he⟩
      have HE6 := Lib.hid (HE5.out.trans he)
      clear he
      go_wp2_with fail
      go_ret
      exact ⟨rfl, HE6.out⟩
    · go_wp2_with fail
      refine (known_any w2 (HL.out.ext HE2.out)).mono ?_
      rintro e w6 ⟨rfl, he⟩
      have HE6 := Lib.hid (HE2.out.trans he)
      clear he
      go_wp2_with fail
      go_ret
      exact ⟨rfl, HE6.out⟩
  · go_wp2_with fail
    refine (known_any w1 (HL.out.ext HE1.out)).mono ?_
    rintro e w6 ⟨rfl, he⟩
    have HE6 := Lib.hid (HE1.out.trans he)
    clear he
    go_wp2_with fail
    go_ret
    exact ⟨rfl, HE6.out⟩
end Go.Proofs.YthknpnhiijbgfaaDoor
