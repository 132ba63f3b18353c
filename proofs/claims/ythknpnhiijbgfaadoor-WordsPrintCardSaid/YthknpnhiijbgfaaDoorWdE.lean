/- Words: how many bytes of blanks and comments stand ahead, in the program. -/
import Derived.Test.YthknpnhiijbgfaaDoorWdA
import Derived.Test.YthknpnhiijbgfaaDoorShelf
import Derived.Lib.IndexBytes
import Derived.Lib.IndexLaws
namespace Go.Proofs.YthknpnhiijbgfaaDoor
open Go.RowKit
set_option linter.unusedVariables false
set_option linter.unusedSimpArgs false

theorem blank_true : ∀ l : List UInt8, (Lib.indexByte l 10 = -1 ∧ blankS true l = l.length) ∨ (∃ e : Nat, Lib.indexByte l 10 = e ∧ e < l.length ∧ blankS true l = e + blankS false (l.drop e))
  | [] => .inl ⟨rfl, rfl⟩
  | c :: l => by
    by_cases hc : c = 10
    · subst hc
      exact .inr ⟨0, by simp [Lib.indexByte], by simp, by simp [blankS, blkB]⟩
    · have hn : ¬ c.toNat = 10 := fun e => hc (u8_eq e)
      have hb : (c == (10 : UInt8)) = false := by simpa using hc
      have hs : blankS true (c :: l) = blankS true l + 1 := by simp [blankS, hn]
      rcases blank_true l with ⟨h1, h2⟩ | ⟨e, h1, h2, h3⟩
      · refine .inl ⟨?_, by rw [hs, h2]; rfl⟩
        simp [Lib.indexByte, hb, hc, h1]
      · refine .inr ⟨e + 1, ?_, by simp; omega, ?_⟩
        · simp [Lib.indexByte, hb, hc, h1]
          try omega
        · rw [hs, h3, List.drop_succ_cons]; omega
theorem pre_dash (c : UInt8) (l : List UInt8) : Lib.hasPrefix (c :: l) [45, 45] = decide (c.toNat = 45 ∧ (l.head?.map (·.toNat)) = some 45) := by
  unfold Lib.hasPrefix
  cases l with
  | nil => simp [List.isPrefixOf]
  | cons d l =>
    simp only [List.isPrefixOf, List.head?_cons, Option.map_some, Option.some.injEq, Bool.and_true]
    rw [Bool.eq_iff_iff]
    simp only [Bool.and_eq_true, beq_iff_eq, decide_eq_true_eq]
    exact ⟨fun h => ⟨by rw [← h.1]; rfl, by rw [← h.2]; rfl⟩, fun h => ⟨(u8_eq (by rw [h.1]; rfl)).symm, (u8_eq (by rw [h.2]; rfl)).symm⟩⟩
theorem blank_comment {c : UInt8} {l : List UInt8} (h : Lib.hasPrefix (c :: l) [45, 45] = true) : blankS false (c :: l) = blankS true (c :: l) ∧ ¬ c.toNat = 10 := by
  rw [pre_dash, decide_eq_true_eq] at h
  have h1 : blkB c = false := by simp [blkB]; omega
  exact ⟨by simp [blankS, h1, h], by omega⟩
theorem blank_blk {c : UInt8} {l : List UInt8} (h : blkB c = true) : blankS false (c :: l) = blankS false l + 1 := by simp [blankS, h]
theorem blank_none {c : UInt8} {l : List UInt8} (h1 : blkB c = false) (h : Lib.hasPrefix (c :: l) [45, 45] = false) : blankS false (c :: l) = 0 := by
  rw [pre_dash, decide_eq_false_iff_not] at h
  unfold blankS
  rw [if_neg (by rw [h1]; simp), if_neg h]
set_option maxRecDepth 100000 in
set_option maxHeartbeats 1000000 in
theorem blank_any (w : World) (s : ByteArray) (hs : s.size ≤ 9223372036854775806) : Calls Tryd.prog 44 #[.string s] w fun e w' => e = .returned (.int .i64 (blankS false s.data.toList : Int)) ∧ w = w' := by
  obtain ⟨n, hn⟩ : ∃ n, s.size = n := ⟨_, rfl⟩
  have hl : s.data.toList.length = n := hn
  obtain ⟨l, hL⟩ : ∃ l, s.data.toList = l := ⟨_, rfl⟩
  obtain ⟨r, hr⟩ : ∃ r, blankS false l = r := ⟨_, rfl⟩
  rw [hL, hr]
  have HR := Lib.hid hr
  have HL := Lib.hid hL
  rw [hL] at hl
  clear hr hL
  go_enter Tryd.func44, Tryd.ntmps44
  go_wp2_with fail
  go_loopw [3] (fun v3 wr => ∃ k : Nat, v3 = .int .i64 (k : Int) ∧ k ≤ n ∧ wr = w ∧ Hid (k + blankS false (l.drop k) = r)) (fun v3 _ => n - (intOf v3).toNat)
  case atStart => exact ⟨0, rfl, by omega, rfl, Lib.hid (by rw [List.drop_zero, HR.out]; omega)⟩
  case round =>
    obtain ⟨k, rfl, hk, rfl, HK⟩ := hrel
    by_cases hkn : k < n
    · have d1 : decide ((k : Int) < (n : Int)) = true := decide_eq_true (by omega)
      have d1n : decide (k < n) = true := decide_eq_true hkn
      have hks : k < s.size := by omega
      obtain ⟨c, hc⟩ : ∃ c, s[k]'hks = c := ⟨_, rfl⟩
      obtain ⟨m, hm⟩ : ∃ m, l.drop (k + 1) = m := ⟨_, rfl⟩
      have hd : l.drop k = c :: m := by rw [List.drop_eq_getElem_cons (by omega), ← hc, hm]; congr 1; rw [← str_get]; exact get_of HL.out.symm _
      have hdl : m.length = n - (k + 1) := by rw [← hm, List.length_drop, hl]
      have hex : (s.extract k n).data.toList = c :: m := by rw [← hn, Lib.extract_to_end, HL.out, hd]
      have HC := Lib.hid hc
      have HD := Lib.hid hd
      have HM := Lib.hid hm
      have HDL := Lib.hid hdl
      have HX := Lib.hid hex
      have hcn := c.toNat_lt
      clear hd hm hdl hex
      by_cases e0 : c.toNat = 32
      · have f0 : ((c.toNat : Int) == 32) = true := by rw [e0]; rfl
        have hbb : Hid (blkB c = true) := Lib.hid (by simp [blkB, e0])
        have E0 := Lib.hid e0
        clear e0
        go_wp2_with fail
        go_roundw
        case rel => exact ⟨k + 1, by simp, by omega, by first | rfl | trivial, Lib.hid (by have h := HK.out; rw [HD.out, blank_blk hbb.out] at h; rw [HM.out]; omega)⟩
        case measure => simp [intOf]; omega
      · have f0 : ((c.toNat : Int) == 32) = false := by rw [beq_eq_false_iff_ne]; omega
        by_cases e1 : c.toNat = 9
        · have f1 : ((c.toNat : Int) == 9) = true := by rw [e1]; rfl
          have hbb : Hid (blkB c = true) := Lib.hid (by simp [blkB, e1])
          have E1 := Lib.hid e1
          clear e1
          go_wp2_with fail
          go_roundw
          case rel => exact ⟨k + 1, by simp, by omega, by first | rfl | trivial, Lib.hid (by have h := HK.out; rw [HD.out, blank_blk hbb.out] at h; rw [HM.out]; omega)⟩
          case measure => simp [intOf]; omega
        · have f1 : ((c.toNat : Int) == 9) = false := by rw [beq_eq_false_iff_ne]; omega
          by_cases e2 : c.toNat = 10
          · have f2 : ((c.toNat : Int) == 10) = true := by rw [e2]; rfl
            have hbb : Hid (blkB c = true) := Lib.hid (by simp [blkB, e2])
            have E2 := Lib.hid e2
            clear e2
            go_wp2_with fail
            go_roundw
            case rel => exact ⟨k + 1, by simp, by omega, by first | rfl | trivial, Lib.hid (by have h := HK.out; rw [HD.out, blank_blk hbb.out] at h; rw [HM.out]; omega)⟩
            case measure => simp [intOf]; omega
          · have f2 : ((c.toNat : Int) == 10) = false := by rw [beq_eq_false_iff_ne]; omega
            by_cases e3 : c.toNat = 13
            · have f3 : ((c.toNat : Int) == 13) = true := by rw [e3]; rfl
              have hbb : Hid (blkB c = true) := Lib.hid (by simp [blkB, e3])
              have E3 := Lib.hid e3
              clear e3
              go_wp2_with fail
              go_roundw
              case rel => exact ⟨k + 1, by simp, by omega, by first | rfl | trivial, Lib.hid (by have h := HK.out; rw [HD.out, blank_blk hbb.out] at h; rw [HM.out]; omega)⟩
              case measure => simp [intOf]; omega
            · have f3 : ((c.toNat : Int) == 13) = false := by rw [beq_eq_false_iff_ne]; omega
              have hbb : Hid (blkB c = false) := Lib.hid (by simp [blkB]; omega)
              have E0 := Lib.hid e0
              have E1 := Lib.hid e1
              have E2 := Lib.hid e2
              have E3 := Lib.hid e3
              clear e0 e1 e2 e3
              have dk : k ≤ s.size := by omega
              go_wp2_with fail
              refine (Tryd.strings_HasPrefix _ _ _).mono ?_
              rintro e w' ⟨rfl, rfl⟩
              obtain ⟨b, hb⟩ : ∃ b, Lib.hasPrefix (s.extract k n).data.toList [45, 45] = b := ⟨_, rfl⟩
              rw [show ((⟨#[45, 45]⟩ : ByteArray).data.toList) = [45, 45] from rfl]
              obtain ⟨b, hb⟩ : ∃ b, Lib.hasPrefix (s.extract k n).data.toList [45, 45] = b := ⟨_, rfl⟩
              have HB : Hid (Lib.hasPrefix (c :: m) [45, 45] = b) := Lib.hid (by rw [← HX.out]; exact hb)
              rw [hb]
              clear hb
              cases b
              · go_wp2_with fail
                go_ret
                have h := HK.out
                rw [HD.out, blank_none hbb.out HB.out] at h
                exact ⟨ret_of (int_eq (by omega)), rfl⟩
              · go_wp2_with fail
                refine (Tryd.strings_IndexByte _ _ _).mono ?_
                rintro e w' ⟨rfl, rfl⟩
                rw [HX.out, show ((10 : Int).toNat.toUInt8) = 10 from rfl]
                have hcm := blank_comment HB.out
                have h := HK.out
                rw [HD.out, hcm.1] at h
                have h10 := hcm.2
                rcases blank_true (c :: m) with ⟨i1, i2⟩ | ⟨e, i1, i2, i3⟩
                · rw [i1]
                  rw [i2] at h
                  have hres : Hid (r = n) := Lib.hid (by have := HDL.out; simp at h; omega)
                  clear h i1 i2 hcm h10
                  go_wp2_with fail
                  go_ret
                  exact ⟨ret_of (int_eq (by rw [hres.out])), rfl⟩
                · rw [i1]
                  rw [i3] at h
                  have he1 : 1 ≤ e := by
                    rcases Nat.eq_zero_or_pos e with h0 | h0
                    · subst h0
                      have := (Lib.indexByte_some i1).1
                      simp at this
                      exact absurd (by rw [this]; rfl) h10
                    · exact h0
                  have hle : k + e ≤ n := by have := HDL.out; simp at i2; omega
                  have HN : Hid ((k + e) + blankS false (l.drop (k + e)) = r) := Lib.hid (by rw [← List.drop_drop, HD.out]; omega)
                  have de : decide ((e : Int) < 0) = false := decide_eq_false (by omega)
                  clear h i1 i2 i3 hcm h10
                  go_wp2_with fail
                  go_roundw
                  case rel => exact ⟨k + e, by simp, hle, by first | rfl | trivial, HN⟩
                  case measure => simp [intOf]; omega
    · have d1 : decide ((k : Int) < (n : Int)) = false := decide_eq_false (by omega)
      have d1n : decide (k < n) = false := decide_eq_false hkn
      go_wp2_with fail
      go_ret
      have h := HK.out
      rw [List.drop_eq_nil_of_le (by omega)] at h
      exact ⟨ret_of (int_eq (by have : blankS false [] = 0 := rfl; omega)), rfl⟩
end Go.Proofs.YthknpnhiijbgfaaDoor
