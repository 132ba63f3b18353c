/- Words: blanks and comments, numbers, in the document. -/
import Derived.Test.YthknpnhiijbgfaaDoorWdQ
namespace Go.Proofs.YthknpnhiijbgfaaDoor
open Go.RowKit
set_option linter.unusedVariables false
set_option linter.unusedSimpArgs false

set_option maxRecDepth 100000 in
set_option maxHeartbeats 1000000 in
theorem rblank_any (w : World) (s : ByteArray) (a : Nat) (ha : a ≤ s.size) (hs : s.size ≤ 9223372036854775806) : Calls Tryd.prog 22 #[.string s, .int .i64 (a : Int)] w fun e w' => e = .returned (.int .i64 ((a + blankS false (s.data.toList.drop a) : Nat) : Int)) ∧ w = w' := by
  obtain ⟨n, hn⟩ : ∃ n, s.size = n := ⟨_, rfl⟩
  have hl : s.data.toList.length = n := hn
  obtain ⟨l, hL⟩ : ∃ l, s.data.toList = l := ⟨_, rfl⟩
  obtain ⟨r, hr⟩ : ∃ r, a + blankS false (l.drop a) = r := ⟨_, rfl⟩
  rw [hL, hr]
  have HR := Lib.hid hr
  have HL := Lib.hid hL
  rw [hL] at hl
  rw [hn] at ha
  clear hr hL
  go_enter Tryd.func22, Tryd.ntmps22
  go_wp2_with fail
  go_loopw [1] (fun v1 wr => ∃ k : Nat, v1 = .int .i64 (k : Int) ∧ k ≤ n ∧ wr = w ∧ Hid (k + blankS false (l.drop k) = r)) (fun v1 _ => n - (intOf v1).toNat)
  case atStart => exact ⟨a, rfl, by omega, rfl, HR⟩
  case round =>
    obtain ⟨k, rfl, hk, rfl, HK⟩ := hrel
    by_cases hkn : k < n
    · have d1 : decide ((k : Int) < (n : Int)) = true := decide_eq_true (by omega)
      have d1n : decide (k < n) = true := decide_eq_true hkn
      have hks : k < s.size := by omega
      obtain ⟨c, hc⟩ : ∃ c, s[k]'hks = c := ⟨_, rfl⟩
      obtain ⟨m, hm⟩ : ∃ m, l.drop (k + 1) = m := ⟨_, rfl⟩
      have hd : l.drop k = c :: m := by rw [List.drop_eq_getElem_cons (by omega), ← hc, hm]; congr 1; rw [← str_get]; exact get_of HL.out.symm _
      have hdl : m.length = n - (k + 1) := by rw [← hm, List.length_drop, hl]
      have HD := Lib.hid hd
      have HM := Lib.hid hm
      have HDL := Lib.hid hdl
      have hcn := c.toNat_lt
      clear hd hm hdl
      by_cases e0 : c.toNat = 32
      · have f0 : ((c.toNat : Int) == 32) = true := by rw [e0]; rfl
        have hbb : Hid (blkB c = true) := Lib.hid (by simp [blkB, e0])
        have E0 := Lib.hid e0
        clear e0
        go_wp2_with fail
        go_roundw
        case rel => exact ⟨k + 1, by simp, by omega, by first | rfl | trivial, Lib.hid (by have h := HK.out; rw [HD.out, blank_blk hbb.out] at h; rw [HM.out]; omega)⟩
        case measure => simp [intOf]; omega
      · have f0 : ((c.toNat : Int) == 32) = false := by rw [beq_eq_false_iff_ne]; omega
        by_cases e1 : c.toNat = 9
        · have f1 : ((c.toNat : Int) == 9) = true := by rw [e1]; rfl
          have hbb : Hid (blkB c = true) := Lib.hid (by simp [blkB, e1])
          have E1 := Lib.hid e1
          clear e1
          go_wp2_with fail
          go_roundw
          case rel => exact ⟨k + 1, by simp, by omega, by first | rfl | trivial, Lib.hid (by have h := HK.out; rw [HD.out, blank_blk hbb.out] at h; rw [HM.out]; omega)⟩
          case measure => simp [intOf]; omega
        · have f1 : ((c.toNat : Int) == 9) = false := by rw [beq_eq_false_iff_ne]; omega
          by_cases e2 : c.toNat = 10
          · have f2 : ((c.toNat : Int) == 10) = true := by rw [e2]; rfl
            have hbb : Hid (blkB c = true) := Lib.hid (by simp [blkB, e2])
            have E2 := Lib.hid e2
            clear e2
            go_wp2_with fail
            go_roundw
            case rel => exact ⟨k + 1, by simp, by omega, by first | rfl | trivial, Lib.hid (by have h := HK.out; rw [HD.out, blank_blk hbb.out] at h; rw [HM.out]; omega)⟩
            case measure => simp [intOf]; omega
          · have f2 : ((c.toNat : Int) == 10) = false := by rw [beq_eq_false_iff_ne]; omega
            by_cases e3 : c.toNat = 13
            · have f3 : ((c.toNat : Int) == 13) = true := by rw [e3]; rfl
              have hbb : Hid (blkB c = true) := Lib.hid (by simp [blkB, e3])
              have E3 := Lib.hid e3
              clear e3
              go_wp2_with fail
              go_roundw
              case rel => exact ⟨k + 1, by simp, by omega, by first | rfl | trivial, Lib.hid (by have h := HK.out; rw [HD.out, blank_blk hbb.out] at h; rw [HM.out]; omega)⟩
              case measure => simp [intOf]; omega
            · have f3 : ((c.toNat : Int) == 13) = false := by rw [beq_eq_false_iff_ne]; omega
              have hbb : Hid (blkB c = false) := Lib.hid (by simp [blkB]; omega)
              have E2 := Lib.hid e2
              clear e0 e1 e3 e2
              by_cases h45 : c.toNat = 45
              · have g0 : ((c.toNat : Int) == 45) = true := by rw [h45]; rfl
                have g0n : ((c.toNat : Int) != 45) = false := by rw [h45]; rfl
                have H45 := Lib.hid h45
                clear h45
                by_cases hk2 : k + 1 < n
                · have d2 : decide ((n : Int) ≤ (k : Int) + 1) = false := decide_eq_false (by omega)
                  have d2n : decide (n ≤ k + 1) = false := decide_eq_false (by omega)
                  have hks2 : k + 1 < s.size := by omega
                  obtain ⟨c2, hc2⟩ : ∃ c, s[k + 1]'hks2 = c := ⟨_, rfl⟩
                  have hd2 : m = c2 :: l.drop (k + 1 + 1) := by rw [← HM.out, List.drop_eq_getElem_cons (by omega), ← hc2]; congr 1; rw [← str_get]; exact get_of HL.out.symm _
                  have HD2 := Lib.hid hd2
                  clear hd2
                  by_cases h46 : c2.toNat = 45
                  · have g1 : ((c2.toNat : Int) == 45) = true := by rw [h46]; rfl
                    have g1n : ((c2.toNat : Int) != 45) = false := by rw [h46]; rfl
                    have hpre : Lib.hasPrefix (c :: m) [45, 45] = true := by rw [pre_dash, decide_eq_true_eq, HD2.out]; exact ⟨H45.out, by simp [h46]⟩
                    have hcm := blank_comment hpre
                    have h := HK.out
                    rw [HD.out, hcm.1, ← HD.out] at h
                    have HT := Lib.hid h
                    have H46 := Lib.hid h46
                    clear h hcm hpre h46
                    go_wp2_with fail
                    go_loopw [1] (fun v1 wq => ∃ j : Nat, v1 = .int .i64 (j : Int) ∧ k ≤ j ∧ j ≤ n ∧ wq = wr ∧ Hid (j + blankS true (l.drop j) = r)) (fun v1 _ => n - (intOf v1).toNat)
                    case atStart => exact ⟨k, rfl, Nat.le_refl _, by omega, rfl, HT⟩
                    case round =>
                      obtain ⟨j, rfl, hkj, hj, rfl, HJ⟩ := hrel
                      by_cases hjn : j < n
                      · have d3 : decide ((j : Int) < (n : Int)) = true := decide_eq_true (by omega)
                        have d3n : decide (j < n) = true := decide_eq_true hjn
                        have hjs : j < s.size := by omega
                        obtain ⟨c3, hc3⟩ : ∃ c, s[j]'hjs = c := ⟨_, rfl⟩
                        have hd3 : l.drop j = c3 :: l.drop (j + 1) := by rw [List.drop_eq_getElem_cons (by omega), ← hc3]; congr 1; rw [← str_get]; exact get_of HL.out.symm _
                        have HD3 := Lib.hid hd3
                        clear hd3
                        by_cases h10 : c3.toNat = 10
                        · have g3 : ((c3.toNat : Int) == 10) = true := by rw [h10]; rfl
                          have g3n : ((c3.toNat : Int) != 10) = false := by rw [h10]; rfl
                          have hlt : k < j := by
                            rcases Nat.lt_or_ge k j with h | h
                            · exact h
                            · exfalso
                              have e : j = k := by omega
                              subst e
                              have e2 := HD3.out
                              rw [HD.out] at e2
                              injection e2 with e3 e4
                              rw [← e3, H45.out] at h10
                              omega
                          have HN : Hid (j + blankS false (l.drop j) = r) := Lib.hid (by
                            have h := HJ.out
                            rw [HD3.out] at h ⊢
                            rw [show c3 = 10 from u8_eq h10] at h ⊢
                            have e1 : blankS true (10 :: l.drop (j + 1)) = blankS false (l.drop (j + 1)) + 1 := by simp [blankS]
                            have e2 : blankS false (10 :: l.drop (j + 1)) = blankS false (l.drop (j + 1)) + 1 := blank_blk (by rfl)
                            omega)
                          have H10 := Lib.hid h10
                          clear h10
                          go_wp2_with fail
                          go_roundw
                          case rel => exact ⟨j, rfl, hj, by first | rfl | trivial, HN⟩
                          case measure => simp [intOf]; omega
                        · have g3 : ((c3.toNat : Int) == 10) = false := by rw [beq_eq_false_iff_ne]; omega
                          have g3n : ((c3.toNat : Int) != 10) = true := by simp [bne, g3]
                          have HN : Hid ((j + 1) + blankS true (l.drop (j + 1)) = r) := Lib.hid (by
                            have h := HJ.out
                            rw [HD3.out] at h
                            have e1 : blankS true (c3 :: l.drop (j + 1)) = blankS true (l.drop (j + 1)) + 1 := by simp [blankS, h10]
                            omega)
                          have H10 := Lib.hid h10
                          clear h10
                          go_wp2_with fail
                          go_roundw
                          case rel => exact ⟨j + 1, by simp, by omega, by omega, by first | rfl | trivial, HN⟩
                          case measure => simp [intOf]; omega
                      · obtain rfl : j = n := by omega
                        have d3 : decide ((j : Int) < (j : Int)) = false := decide_eq_false (by omega)
                        have HN : Hid (j + blankS false (l.drop j) = r) := Lib.hid (by
                          have h := HJ.out
                          rw [List.drop_eq_nil_of_le (by omega)] at h ⊢
                          have e1 : blankS true ([] : List UInt8) = 0 := by simp [blankS]
                          have e2 : blankS false ([] : List UInt8) = 0 := by simp [blankS]
                          omega)
                        go_wp2_with fail
                        go_roundw
                        case rel => exact ⟨j, rfl, Nat.le_refl _, by first | rfl | trivial, HN⟩
                        case measure => simp [intOf]; omega
                  · have g1 : ((c2.toNat : Int) == 45) = false := by rw [beq_eq_false_iff_ne]; omega
                    have g1n : ((c2.toNat : Int) != 45) = true := by simp [bne, g1]
                    have hpre : Lib.hasPrefix (c :: m) [45, 45] = false := by rw [pre_dash, decide_eq_false_iff_not, HD2.out]; rintro ⟨_, h⟩; simp at h; exact h46 h
                    have h := HK.out
                    rw [HD.out, blank_none hbb.out hpre] at h
                    have HT := Lib.hid h
                    have H46 := Lib.hid h46
                    clear h hpre h46
                    go_wp2_with fail
                    go_ret
                    exact ⟨ret_of (int_eq (by have := HT.out; omega)), rfl⟩
                · have d2 : decide ((n : Int) ≤ (k : Int) + 1) = true := decide_eq_true (by omega)
                  have d2n : decide (n ≤ k + 1) = true := decide_eq_true (by omega)
                  have hm0 : m = [] := List.eq_nil_of_length_eq_zero (by have := HDL.out; omega)
                  have hpre : Lib.hasPrefix (c :: m) [45, 45] = false := by rw [pre_dash, hm0]; simp
                  have h := HK.out
                  rw [HD.out, blank_none hbb.out hpre] at h
                  have HT := Lib.hid h
                  clear h hpre hm0
                  go_wp2_with fail
                  go_ret
                  exact ⟨ret_of (int_eq (by have := HT.out; omega)), rfl⟩
              · have g0 : ((c.toNat : Int) == 45) = false := by rw [beq_eq_false_iff_ne]; omega
                have g0n : ((c.toNat : Int) != 45) = true := by simp [bne, g0]
                have hpre : Lib.hasPrefix (c :: m) [45, 45] = false := by rw [pre_dash, decide_eq_false_iff_not]; exact fun h => h45 h.1
                have h := HK.out
                rw [HD.out, blank_none hbb.out hpre] at h
                have HT := Lib.hid h
                have H45 := Lib.hid h45
                clear h hpre h45
                go_wp2_with fail
                go_ret
                exact ⟨ret_of (int_eq (by have := HT.out; omega)), rfl⟩
    · have d1 : decide ((k : Int) < (n : Int)) = false := decide_eq_false (by omega)
      have d1n : decide (k < n) = false := decide_eq_false hkn
      go_wp2_with fail
      go_ret
      have h := HK.out
      rw [List.drop_eq_nil_of_le (by omega)] at h
      exact ⟨ret_of (int_eq (by have : blankS false [] = 0 := rfl; omega)), rfl⟩
end Go.Proofs.YthknpnhiijbgfaaDoor
