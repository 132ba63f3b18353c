/- Words: letters, digits; how many of them stand ahead. -/
import Derived.Test.YthknpnhiijbgfaaDoorWdM
import Derived.Test.YthknpnhiijbgfaaDoorProg
import Derived.StillTailTactics
import Derived.Lib.Strings
import Derived.Lib.Walk
import Derived.Deep.QuietTactic
import Derived.Deep.RegionHeld3
import Derived.Deep.DrawnRows
namespace Go.Proofs.YthknpnhiijbgfaaDoor
open Go.RowKit
set_option linter.unusedVariables false
set_option linter.unusedSimpArgs false

theorem letter_any (w : World) (c : UInt8) : Calls Tryd.prog 24 #[.int .u8 (c.toNat : Int)] w fun e w' => e = .returned (.bool (letB c)) ∧ w = w' := by
  obtain ⟨r, hr⟩ : ∃ r, letB c = r := ⟨_, rfl⟩
  have HR := Lib.hid hr
  rw [hr]
  clear hr
  go_enter Tryd.func24, Tryd.ntmps24
  go_wp2_with fail
  all_goals (go_ret; refine ⟨ret_of (bool_eq ?_), rfl⟩; rw [← HR.out, Bool.eq_iff_iff]; simp [letB]; omega)
theorem digit_any (w : World) (c : UInt8) : Calls Tryd.prog 26 #[.int .u8 (c.toNat : Int)] w fun e w' => e = .returned (.bool (digB c)) ∧ w = w' := by
  obtain ⟨r, hr⟩ : ∃ r, digB c = r := ⟨_, rfl⟩
  have HR := Lib.hid hr
  rw [hr]
  clear hr
  go_enter Tryd.func26, Tryd.ntmps26
  go_wp2_with fail
  all_goals (go_ret; refine ⟨ret_of (bool_eq ?_), rfl⟩; rw [← HR.out, Bool.eq_iff_iff]; simp [digB]; omega)
theorem rletter_any (w : World) (c : UInt8) : Calls Tryd.prog 29 #[.int .u8 (c.toNat : Int)] w fun e w' => e = .returned (.bool (letB c)) ∧ w = w' := by
  obtain ⟨r, hr⟩ : ∃ r, letB c = r := ⟨_, rfl⟩
  have HR := Lib.hid hr
  rw [hr]
  clear hr
  go_enter Tryd.func29, Tryd.ntmps29
  go_wp2_with fail
  all_goals (go_ret; refine ⟨ret_of (bool_eq ?_), rfl⟩; rw [← HR.out, Bool.eq_iff_iff]; simp [letB]; omega)
theorem rdigit_any (w : World) (c : UInt8) : Calls Tryd.prog 27 #[.int .u8 (c.toNat : Int)] w fun e w' => e = .returned (.bool (digB c)) ∧ w = w' := by
  obtain ⟨r, hr⟩ : ∃ r, digB c = r := ⟨_, rfl⟩
  have HR := Lib.hid hr
  rw [hr]
  clear hr
  go_enter Tryd.func27, Tryd.ntmps27
  go_wp2_with fail
  all_goals (go_ret; refine ⟨ret_of (bool_eq ?_), rfl⟩; rw [← HR.out, Bool.eq_iff_iff]; simp [digB]; omega)
theorem str_empty (s : ByteArray) : s.toList.isEmpty = decide (s.size = 0) := by
  rw [Lib.toList_data]
  have : s.data.toList.length = s.size := rfl
  cases h : s.data.toList with
  | nil => rw [h] at this; simp at this; simp [← this]
  | cons a l => rw [h] at this; simp at this; simp [← this]
theorem str_get (s : ByteArray) (k : Nat) (h : k < s.size) : s.data.toList[k]'(show k < s.data.toList.length from h) = s[k]'h := rfl
theorem get_of {l m : List UInt8} (h : l = m) {k : Nat} (h1 : k < l.length) : l[k] = m[k]'(h ▸ h1) := by subst h; rfl
set_option maxRecDepth 100000 in
set_option maxHeartbeats 1000000 in
theorem run_any (w : World) (s : ByteArray) (hs : s.size ≤ 9223372036854775807) : Calls Tryd.prog 60 #[.string s] w fun e w' => e = .returned (.int .i64 (runP s.data.toList : Int)) ∧ w = w' := by
  obtain ⟨n, hn⟩ : ∃ n, s.size = n := ⟨_, rfl⟩
  have hl : s.data.toList.length = n := hn
  obtain ⟨l, hL⟩ : ∃ l, s.data.toList = l := ⟨_, rfl⟩
  obtain ⟨r, hr⟩ : ∃ r, runP l = r := ⟨_, rfl⟩
  rw [hL, hr]
  have HR := Lib.hid hr
  have HL := Lib.hid hL
  rw [hL] at hl
  clear hr hL
  go_enter Tryd.func60, Tryd.ntmps60
  go_wp2_with fail
  go_loopw [3] (fun v3 wr => ∃ k : Nat, v3 = .int .i64 (k : Int) ∧ k ≤ n ∧ wr = w ∧ Hid (k + runP (l.drop k) = r)) (fun v3 _ => n - (intOf v3).toNat)
  case atStart => exact ⟨0, rfl, by omega, rfl, Lib.hid (by rw [List.drop_zero, HR.out]; omega)⟩
  case round =>
    obtain ⟨k, rfl, hk, rfl, HK⟩ := hrel
    by_cases hkn : k < n
    · have d1 : decide ((k : Int) < (n : Int)) = true := decide_eq_true (by omega)
      have d1n : decide (k < n) = true := decide_eq_true hkn
      have hks : k < s.size := by omega
      obtain ⟨c, hc⟩ : ∃ c, s[k]'hks = c := ⟨_, rfl⟩
      have hd : l.drop k = c :: l.drop (k + 1) := by rw [List.drop_eq_getElem_cons (by omega), ← hc]; congr 1; rw [← str_get]; exact get_of HL.out.symm _
      have HC := Lib.hid hc
      have hrun := HK.out
      rw [hd] at hrun
      have hrun : k + (if wrdB c = true then runP (l.drop (k + 1)) + 1 else 0) = r := hrun
      clear hd hc HK
      have HK := Lib.hid hrun
      clear hrun
      go_wp2_with fail
      rw [HC.out]
      refine (letter_any _ c).mono ?_
      rintro e w' ⟨rfl, rfl⟩
      obtain ⟨b, hb⟩ : ∃ b, letB c = b := ⟨_, rfl⟩
      have HB := Lib.hid hb
      rw [hb]
      clear hb
      cases b
      · go_wp2_with fail
        rw [HC.out]
        refine (digit_any _ c).mono ?_
        rintro e w' ⟨rfl, rfl⟩
        obtain ⟨b, hb⟩ : ∃ b, digB c = b := ⟨_, rfl⟩
        have HD := Lib.hid hb
        rw [hb]
        clear hb
        cases b
        · go_wp2_with fail
          go_ret
          have hw : wrdB c = false := by unfold wrdB; rw [HB.out, HD.out]; rfl
          have h := HK.out
          rw [hw, if_neg (by simp)] at h
          exact ⟨ret_of (int_eq (by omega)), rfl⟩
        · go_wp2_with fail
          go_roundw
          case rel =>
            have hw : wrdB c = true := by unfold wrdB; rw [HB.out, HD.out]; rfl
            have h := HK.out
            rw [hw, if_pos rfl] at h
            exact ⟨k + 1, by simp, by omega, by first | rfl | trivial, Lib.hid (by omega)⟩
          case measure => simp [intOf]; omega
      · go_wp2_with fail
        go_roundw
        case rel =>
          have hw : wrdB c = true := by unfold wrdB; rw [HB.out]; rfl
          have h := HK.out
          rw [hw, if_pos rfl] at h
          exact ⟨k + 1, by simp, by omega, by first | rfl | trivial, Lib.hid (by omega)⟩
        case measure => simp [intOf]; omega
    · have d1 : decide ((k : Int) < (n : Int)) = false := decide_eq_false (by omega)
      have d1n : decide (k < n) = false := decide_eq_false hkn
      go_wp2_with fail
      go_ret
      have h := HK.out
      rw [List.drop_eq_nil_of_le (by omega)] at h
      exact ⟨ret_of (int_eq (by have : runP [] = 0 := rfl; omega)), rfl⟩
end Go.Proofs.YthknpnhiijbgfaaDoor
