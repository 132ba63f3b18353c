/- LibraryNames: the walk. -/
import Derived.Test.YtfagldjhibdfhaaGreatDoorYB6
import Derived.Test.YtfagldjhibdfhaaGreatDoorYA6
import Derived.Test.YtfagldjhibdfhaaGreatDoorYLdA
namespace Go.Proofs.YtfagldjhibdfhaaGreatDoor
open Go.RowKit
set_option linter.unusedVariables false
set_option linter.unusedSimpArgs false

set_option maxRecDepth 100000 in
set_option maxHeartbeats 2000000 in
theorem law_names (w : World) (s : ByteArray) (hL : LLaid w) : Calls Tryz.prog 7 #[.string s] w fun e w' => e = .returned (.bool true) ∧ Ext w w' := by
  have HL := Lib.hid hL
  clear hL
  go_enter Tryz.func7, Tryz.ntmps7
  go_wp2_with fail
  refine (names_any _).mono ?_
  rintro e w1 ⟨b, c, rfl, e1, hb1, hb2, hc⟩
  have E1 := Lib.hid e1
  have HC := Lib.hid hc
  clear e1 hc
  go_wp2_with fail
  refine (rnames_any _).mono ?_
  rintro e w2 ⟨rfl, rfl⟩
  have E2 := Lib.hid (E1.out.alloc namesO)
  have HD := Lib.hid (names_cell w1)
  have HC2 : Hid (∀ j (hj : j < 13), (w1.alloc namesO).cell? ⟨b, j, none⟩ = some (.string (libNames.getD j sNone))) := Lib.hid (fun j hj => (((Ext.refl w1).alloc namesO).cells.1 b j hb2).trans (HC.out j hj))
  have hsz : b < (w1.alloc namesO).heap.size := by rw [size_alloc]; omega
  have hsz2 : w1.heap.size < (w1.alloc namesO).heap.size := by rw [size_alloc]; omega
  clear E1 HC hb1
  generalize w1.alloc namesO = wA at *
  obtain ⟨b2, hb2'⟩ : ∃ b2, w1.heap.size = b2 := ⟨_, rfl⟩
  rw [hb2'] at HD hsz2 ⊢
  clear hb2 hb2'
  go_wp2_with fail
  go_loopw [5] (fun s5 wr => ∃ j : Nat, s5 = .int .i64 (j : Int) ∧ j ≤ 13 ∧ Hid (Ext wA wr)) (fun s5 _ => 13 - (intOf s5).toNat)
  case atStart => exact ⟨0, rfl, by omega, Lib.hid (Ext.refl _)⟩
  case round =>
    obtain ⟨j, rfl, hj, HX⟩ := hrel
    have hszr : b < wr.heap.size := Nat.lt_of_lt_of_le hsz HX.out.le
    have hszr2 : b2 < wr.heap.size := Nat.lt_of_lt_of_le hsz2 HX.out.le
    by_cases hlt : j < 13
    · have hd : decide ((j : Int) < (13 : Int)) = true := decide_eq_true (by omega)
      have hd' : decide (j < 13) = true := decide_eq_true hlt
      have c1 := cell_of_ext (HC2.out j hlt) HX.out
      have c2 := cell_of_ext (HD.out j hlt) HX.out
      have hj0 : (0 : Int) ≤ (j : Int) := by omega
      have hj13 : (j : Int) < 13 := by omega
      obtain ⟨n, hn⟩ : ∃ n, libNames.getD j sNone = n := ⟨_, rfl⟩
      rw [hn] at c1 c2
      clear hn
      go_wp2_with fail
      go_region_held3 (fun w' => w'.cell? ⟨b, j, none⟩ = some (.string n) ∧ w'.cell? ⟨b2, j, none⟩ = some (.string n)) (go_keep) (fail)
      go_wp2_with fail
      go_roundw
      case rel => exact ⟨j + 1, by go_num, by omega, Lib.hid HX.out.drew⟩
      case measure => simp [intOf]; omega
    · obtain rfl : j = 13 := by omega
      have hd : decide (((13 : Nat) : Int) < (13 : Int)) = false := by decide
      have hd' : decide (13 < 13) = false := by decide
      clear HC2 HD
      go_wp2_with fail
      refine (has_any s _).mono ?_
      rintro e w3 ⟨rfl, e3⟩
      have E3 := Lib.hid ((E2.out.trans HX.out).trans e3)
      clear e3
      go_wp2_with fail
      refine (rhas_any s _).mono ?_
      rintro e w4 ⟨rfl, e4⟩
      have E4 := Lib.hid (E3.out.trans e4)
      clear e4
      generalize callB s = cb
      go_wp2_with fail
      refine (works_any _ (HL.out.ext E4.out)).mono ?_
      rintro e w5 ⟨rfl, e5⟩
      have E5 := Lib.hid (E4.out.trans e5)
      clear e5
      go_wp2_with fail
      go_ret
      exact ⟨rfl, E5.out⟩
end Go.Proofs.YtfagldjhibdfhaaGreatDoor
