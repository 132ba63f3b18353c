/- Words: which texts are names, in the program. -/
import Derived.Test.YthknpnhiijbgfaaDoorWdC
import Derived.Test.YthknpnhiijbgfaaDoorWdA
namespace Go.Proofs.YthknpnhiijbgfaaDoor
open Go.RowKit
set_option linter.unusedVariables false
set_option linter.unusedSimpArgs false

theorem name_not {l : List UInt8} {r : Bool} (hr : nameP l = r) (h : l.length = 0 ∨ 64 < l.length ∨ headB letB l = false ∨ keyB l = true) : r = false := by
  rw [← hr]
  unfold nameP
  rcases h with h | h | h | h
  · have : l = [] := List.length_eq_zero_iff.1 h
    subst this; rfl
  · have : decide (l.length ≤ 64) = false := decide_eq_false (by omega)
    simp [this]
  · simp [h]
  · simp [h]
theorem name_all {l : List UInt8} {r : Bool} (hr : nameP l = r) (h0 : l.length ≠ 0) (h1 : ¬ 64 < l.length) (h2 : headB letB l = true) (h3 : keyB l = false) : l.all wrdB = r := by
  rw [← hr]
  unfold nameP
  have e1 : l.isEmpty = false := by cases l with
    | nil => simp at h0
    | cons a l => rfl
  have e2 : decide (l.length ≤ 64) = true := decide_eq_true (by omega)
  simp [e1, e2, h2, h3]
theorem head_get {p : UInt8 → Bool} {l : List UInt8} (h : 0 < l.length) : headB p l = p (l[0]'h) := by
  cases l with
  | nil => simp at h
  | cons a l => rfl
set_option maxRecDepth 100000 in
set_option maxHeartbeats 1000000 in
theorem name_any (w : World) (s : ByteArray) (ha : Asc w) : Calls Tryd.prog 12 #[.string s] w fun e w' => e = .returned (.bool (nameP s.data.toList)) ∧ Ext w w' := by
  obtain ⟨n, hn⟩ : ∃ n, s.size = n := ⟨_, rfl⟩
  obtain ⟨l, hL⟩ : ∃ l, s.data.toList = l := ⟨_, rfl⟩
  have hl : l.length = n := by rw [← hL]; exact hn
  obtain ⟨r, hr⟩ : ∃ r, nameP l = r := ⟨_, rfl⟩
  rw [hL, hr]
  have HR := Lib.hid hr
  have HL := Lib.hid hL
  have HLL := Lib.hid hl
  have HA := Lib.hid ha
  clear hr hL hl ha
  by_cases h0 : n = 0
  · subst h0
    have e0 : s.toList.isEmpty = true := by rw [str_empty, hn]; rfl
    have HN := Lib.hid hn
    clear hn
    go_enter Tryd.func12, Tryd.ntmps12
    go_wp2_with fail
    go_ret
    exact ⟨ret_of (bool_eq (name_not HR.out (.inl HLL.out)).symm), Ext.refl _⟩
  · have e0 : s.toList.isEmpty = false := by rw [str_empty, hn]; exact decide_eq_false h0
    by_cases h64 : 64 < n
    · have d64 : decide ((64 : Int) < (s.size : Int)) = true := decide_eq_true (by omega)
      have d64n : decide (64 < s.size) = true := decide_eq_true (by omega)
      have HN := Lib.hid hn
      clear hn
      go_enter Tryd.func12, Tryd.ntmps12
      go_wp2_with fail
      go_ret
      exact ⟨ret_of (bool_eq (name_not HR.out (.inr (.inl (by rw [HLL.out]; exact h64)))).symm), Ext.refl _⟩
    · have d64 : decide ((64 : Int) < (s.size : Int)) = false := decide_eq_false (by omega)
      have d64n : decide (64 < s.size) = false := decide_eq_false (by omega)
      have hs0 : 0 < s.size := by omega
      have H0 : Hid (0 < l.length) := Lib.hid (by rw [HLL.out]; omega)
      obtain ⟨c, hc⟩ : ∃ c, s[0]'hs0 = c := ⟨_, rfl⟩
      have hc0 : headB letB l = letB c := by rw [head_get H0.out, ← hc, ← str_get s 0 hs0]; congr 1; exact get_of HL.out.symm _
      have HC := Lib.hid hc
      have HN := Lib.hid hn
      have HC0 := Lib.hid hc0
      clear hn hc hc0
      go_enter Tryd.func12, Tryd.ntmps12
      go_wp2_with fail
      rw [HC.out]
      refine (letter_any _ c).mono ?_
      rintro e w' ⟨rfl, rfl⟩
      obtain ⟨b, hb⟩ : ∃ b, letB c = b := ⟨_, rfl⟩
      have HB := Lib.hid hb
      rw [hb]
      clear hb
      cases b
      · go_wp2_with fail
        go_ret
        exact ⟨ret_of (bool_eq (name_not HR.out (.inr (.inr (.inl (by rw [HC0.out, HB.out]))))).symm), Ext.refl _⟩
      · go_wp2_with fail
        refine (language_any _ HA.out).mono ?_
        rintro e w1 ⟨rfl, he, hm⟩
        obtain ⟨b, hb⟩ : ∃ b, keyB l = b := ⟨_, rfl⟩
        have hk := any_keyW s
        rw [HL.out, hb] at hk
        have HK := Lib.hid hb
        clear hb
        have HE := Lib.hid he
        clear he
        cases b
        · have lk := run_lookup_none Tryd.underlying47 Tryd.underlying9 rfl _ 19 _ (.string s) (.int .i64 0) (zero_int w1) hm (ones_no s keyW hk) false
          simp only [Bool.false_eq_true, if_false] at lk
          clear hm hk
          have HALL := Lib.hid (name_all HR.out (by have := H0.out; omega) (by rw [HLL.out]; exact h64) (by rw [HC0.out, HB.out]) HK.out)
          go_wp2_with fail
          go_loopw [25] (fun v wr => ∃ k : Nat, v = .int .i64 (k : Int) ∧ k ≤ n ∧ wr = w1 ∧ Hid ((l.drop k).all wrdB = r)) (fun v _ => n - (intOf v).toNat)
          case atStart => exact ⟨0, rfl, by omega, rfl, HALL⟩
          case round =>
            obtain ⟨k, rfl, hk, rfl, HK2⟩ := hrel
            by_cases hkn : k < n
            · have HNN := HN.out
              have d1 : decide ((k : Int) < (s.size : Int)) = true := decide_eq_true (by omega)
              have d1n : decide (k < s.size) = true := decide_eq_true (by omega)
              have hks : k < s.size := by omega
              clear HNN
              obtain ⟨c, hc⟩ : ∃ c, s[k]'hks = c := ⟨_, rfl⟩
              have hkl : k < l.length := by rw [HLL.out]; exact hkn
              have hd : l.drop k = c :: l.drop (k + 1) := by rw [List.drop_eq_getElem_cons hkl, ← hc]; congr 1; rw [← str_get]; exact get_of HL.out.symm _
              have HC := Lib.hid hc
              have hrun := HK2.out
              rw [hd, List.all_cons] at hrun
              have HK := Lib.hid hrun
              clear hrun hd hc HK2 hkl
              go_wp2_with fail
              rw [HC.out]
              refine (letter_any _ c).mono ?_
              rintro e w' ⟨rfl, rfl⟩
              obtain ⟨b, hb⟩ : ∃ b, letB c = b := ⟨_, rfl⟩
              have HB := Lib.hid hb
              rw [hb]
              clear hb
              cases b
              · go_wp2_with fail
                rw [HC.out]
                refine (digit_any _ c).mono ?_
                rintro e w' ⟨rfl, rfl⟩
                obtain ⟨b, hb⟩ : ∃ b, digB c = b := ⟨_, rfl⟩
                have HD := Lib.hid hb
                rw [hb]
                clear hb
                cases b
                · go_wp2_with fail
                  go_ret
                  have hw : wrdB c = false := by unfold wrdB; rw [HB.out, HD.out]; rfl
                  have h := HK.out
                  rw [hw] at h
                  exact ⟨ret_of (bool_eq h), HE.out⟩
                · go_wp2_with fail
                  go_roundw
                  case rel =>
                    have hw : wrdB c = true := by unfold wrdB; rw [HB.out, HD.out]; rfl
                    have h := HK.out
                    rw [hw] at h
                    exact ⟨k + 1, by simp, by omega, by first | rfl | trivial, Lib.hid h⟩
                  case measure => simp [intOf]; omega
              · go_wp2_with fail
                go_roundw
                case rel =>
                  have hw : wrdB c = true := by unfold wrdB; rw [HB.out]; rfl
                  have h := HK.out
                  rw [hw] at h
                  exact ⟨k + 1, by simp, by omega, by first | rfl | trivial, Lib.hid h⟩
                case measure => simp [intOf]; omega
            · have HNN := HN.out
              have d1 : decide ((k : Int) < (s.size : Int)) = false := decide_eq_false (by omega)
              have d1n : decide (k < s.size) = false := decide_eq_false (by omega)
              clear HNN
              have h := HK2.out
              rw [List.drop_eq_nil_of_le (by have := HLL.out; omega)] at h
              have HK := Lib.hid h
              clear h HK2
              go_wp2_with fail
              go_ret
              exact ⟨ret_of (bool_eq HK.out), HE.out⟩
        · have lk := run_lookup_lit Tryd.underlying47 Tryd.underlying9 rfl _ 19 _ (.string s) (.int .i64 1) hm (ones_yes s keyW hk) false
          simp only [Bool.false_eq_true, if_false] at lk
          clear hm hk
          go_wp2_with fail
          go_ret
          exact ⟨ret_of (bool_eq (name_not HR.out (.inr (.inr (.inr HK.out)))).symm), HE.out⟩
end Go.Proofs.YthknpnhiijbgfaaDoor
