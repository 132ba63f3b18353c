/- Words: two words that are known; which texts are names, in the document. -/
import Derived.Test.YthknpnhiijbgfaaDoorWdO
namespace Go.Proofs.YthknpnhiijbgfaaDoor
open Go.RowKit
set_option linter.unusedVariables false
set_option linter.unusedSimpArgs false

theorem OwnW.cells {w : World} {B : Nat} {v : Value} {ws : List Wd} (h : OwnW w B v ws) : ∃ q c, v = .slice q ws.length c ∧ (0 < ws.length → ∃ g, q = some ⟨g, 0, none⟩ ∧ B ≤ g ∧ ∀ i (hi : i < ws.length),
    w.cell? ⟨g, i * 4, none⟩ = some (.int .i64 ws[i].k) ∧ w.cell? ⟨g, i * 4 + 1, none⟩ = some (.string ⟨ws[i].t.toArray⟩) ∧ w.cell? ⟨g, i * 4 + 2, none⟩ = some (.int .i64 ws[i].n) ∧ w.cell? ⟨g, i * 4 + 3, none⟩ = some (.int .i64 ws[i].a)) := by
  rcases h.2 with ⟨rfl, h0⟩ | ⟨g, cap, cur, rfl, hb, _⟩
  · exact ⟨none, 0, by rw [h0], fun h => by omega⟩
  · refine ⟨_, cap, rfl, fun _ => ⟨g, rfl, hb, fun i hi => ?_⟩⟩
    have key : ∀ (j : Nat) (u : Value), (ws.flatMap wdC)[i * 4 + j]? = some u → w.cell? ⟨g, i * 4 + j, none⟩ = some u := fun j u hu => by
      have h1 := World.ownsRow.cells h (g := g) rfl (i * 4 + j) u hu
      have hadd : (⟨g, 0, none⟩ : Addr).add (i * 4 + j) = ⟨g, 0 + (i * 4 + j), none⟩ := by unfold Addr.add; split <;> simp_all
      rwa [hadd, Nat.zero_add] at h1
    have fl : ∀ (l : List Wd) (i : Nat) (hi : i < l.length) (j : Nat), j < 4 → (l.flatMap wdC)[i * 4 + j]? = (wdC l[i])[j]? := by
      intro l
      induction l with
      | nil => intro i hi; simp at hi
      | cons y l ih =>
        intro i hi j hj
        rw [List.flatMap_cons]
        cases i with
        | zero => rw [List.getElem?_append_left (by show 0 * 4 + j < 4; omega)]; simp
        | succ i =>
          rw [List.getElem?_append_right (by show 4 ≤ _; omega)]
          have e : (i + 1) * 4 + j - (wdC y).length = i * 4 + j := by show (i + 1) * 4 + j - 4 = _; omega
          rw [e, ih i (by simpa using hi) j hj]
          rfl
    refine ⟨key 0 _ ?_, key 1 _ ?_, key 2 _ ?_, key 3 _ ?_⟩ <;> rw [fl ws i hi _ (by omega)] <;> rfl
theorem lex_known : lexS [97, 32, 49] = .ok [⟨0, [97], 0, 0⟩, ⟨2, [], 1, 2⟩] := by
  unfold lexS
  rw [show blankS false [97, 32, 49] = 0 from rfl]
  rw [lexP_word (a := 0) (by simp) (show wordP (List.drop 0 [97, 32, 49]) = some (⟨0, [97], 0, 0⟩, 1) by decide +kernel) (by omega)]
  show Except.map (fun x => (⟨0, [97], 0, 0⟩ : Wd) :: x) (lexP 2 [49]) = _
  rw [lexP_word (by simp) (show wordP [49] = some (⟨2, [], 1, 0⟩, 1) by decide +kernel) (by omega)]
  show Except.map (fun x => (⟨0, [97], 0, 0⟩ : Wd) :: x) (Except.map (fun x => (⟨2, [], 1, 2⟩ : Wd) :: x) (lexP 3 [])) = _
  rw [lexP_nil]
  rfl
set_option maxRecDepth 100000 in
set_option maxHeartbeats 1000000 in
theorem known_any (w : World) (hL : Laid w) : Calls Tryd.prog 9 #[] w fun e w' => e = .returned (.bool true) ∧ Ext w w' := by
  have HL := Lib.hid hL
  clear hL
  go_enter Tryd.func9, Tryd.ntmps9
  go_wp2_with fail
  refine (lex_any _ ⟨#[97, 32, 49]⟩ (by decide) HL.out).mono ?_
  rintro e w1 ⟨he, hr⟩
  have hk : lexS (⟨#[97, 32, 49]⟩ : ByteArray).data.toList = .ok [⟨0, [97], 0, 0⟩, ⟨2, [], 1, 2⟩] := lex_known
  rw [hk] at hr
  obtain ⟨v, rfl, ho⟩ := hr
  obtain ⟨q, c, rfl, hc⟩ := ho.cells
  obtain ⟨g, rfl, _, hc⟩ := hc (by simp)
  have h0 := hc 0 (by simp)
  have h1 := hc 1 (by simp)
  have c1 : w1.cell? ⟨g, 1, none⟩ = some (.string ⟨#[97]⟩) := h0.2.1
  have c2 : w1.cell? ⟨g, 4 + 2, none⟩ = some (.int .i64 1) := h1.2.2.1
  have c3 : w1.cell? ⟨g, 4 + 3, none⟩ = some (.int .i64 2) := h1.2.2.2
  have HE := Lib.hid he
  clear h0 h1 hc ho hk he
  simp only [List.length_cons, List.length_nil]
  go_wp2_with fail
  go_ret
  exact ⟨rfl, HE.out⟩
theorem eq_str (x s : ByteArray) (b : Bool) (h : (x.data == s.data) = b) : (x.toList == s.toList) = b := by
  rw [Lib.toList_data, Lib.toList_data, ← h, Bool.eq_iff_iff, beq_iff_eq, beq_iff_eq]
  exact ⟨fun e => Array.ext' (by simpa using e), fun e => by rw [e]⟩
theorem anyW_drop (W : List ByteArray) (s : ByteArray) (k : Nat) (h : k < W.length) : (W.drop k).any (fun x => x.data == s.data) = ((W[k].data == s.data) || (W.drop (k + 1)).any fun x => x.data == s.data) := by
  rw [List.drop_eq_getElem_cons h, List.any_cons]
theorem rkey_any (s : ByteArray) (w : World) : Calls Tryd.prog 28 #[.string s] w fun e w' => e = .returned (.bool (keyB s.data.toList)) ∧ Ext w w' := by
  rw [← any_keyW]
  obtain ⟨r, hr⟩ : ∃ r, (keyW.any fun x => x.data == s.data) = r := ⟨_, rfl⟩
  rw [hr]
  have HR := Lib.hid hr
  clear hr
  go_enter Tryd.func28, Tryd.ntmps28
  go_wp2
  go_loopw [4] (fun i wr => ∃ k : Nat, k ≤ 19 ∧ i = .int .i64 k ∧ Ext w wr ∧ Blk wr w.heap.size 9 (keyW.map Value.string).toArray ∧ Hid ((keyW.drop k).any (fun x => x.data == s.data) = r)) (fun i _ => 19 - (intOf i).toNat)
  case atStart => exact ⟨0, Nat.zero_le _, rfl, (Ext.refl w).alloc _, Blk.new _ _ _, HR⟩
  case round =>
    obtain ⟨k, hk, rfl, he, hb, H⟩ := hrel
    by_cases h1 : k < 19
    · have hkl : k < keyW.length := h1
      have hc : wr.cell? ⟨w.heap.size, k, none⟩ = some (.string (keyW[k]'hkl)) := by
        rw [hb.cell]; simp [hkl]
      cases h2 : ((keyW[k]'hkl).data == s.data)
      · have h3 := eq_str _ _ _ h2
        have HH : Hid ((keyW.drop (k + 1)).any (fun x => x.data == s.data) = r) := by
          have := H.out; rw [anyW_drop keyW s k hkl, h2] at this; exact this
        clear H h2
        have HB := Lib.hid hb
        clear hb
        go_wp2
        go_roundw
        case rel => exact ⟨k + 1, h1, by go_num, he, HB.out, HH⟩
        case measure => simp [intOf]; omega
      · have h3 := eq_str _ _ _ h2
        have HH : Hid (r = true) := by
          have := H.out; rw [anyW_drop keyW s k hkl, h2] at this; exact this.symm
        clear H h2 hb
        go_wp2
        go_ret
        exact ⟨ret_of (bool_eq HH.out.symm), he⟩
    · obtain rfl : k = 19 := by omega
      have HH : Hid (r = false) := by have := H.out; exact this.symm
      clear H hb
      go_wp2
      go_ret
      exact ⟨ret_of (bool_eq HH.out.symm), he⟩
/-- The document's names are the names. -/
theorem rname_not {l : List UInt8} {r : Bool} (hr : nameP l = r) (h : l.length = 0 ∨ 64 < l.length ∨ headB digB l = true ∨ keyB l = true) : r = false := by
  rcases h with h | h | h | h
  · exact name_not hr (.inl h)
  · exact name_not hr (.inr (.inl h))
  · refine name_not hr (.inr (.inr (.inl ?_)))
    cases l with
    | nil => rfl
    | cons c l => exact (dig_let h).1
  · exact name_not hr (.inr (.inr (.inr h)))
theorem rname_all {l : List UInt8} {r : Bool} (hr : nameP l = r) (h0 : l.length ≠ 0) (h1 : ¬ 64 < l.length) (h2 : headB digB l = false) (h3 : keyB l = false) : l.all wrdB = r := by
  cases hl : headB letB l with
  | true => exact name_all hr h0 h1 hl h3
  | false =>
    rw [name_not hr (.inr (.inr (.inl hl)))]
    cases l with
    | nil => simp at h0
    | cons c l =>
      have e1 : letB c = false := hl
      have e2 : digB c = false := h2
      simp [wrdB, e1, e2]
set_option maxRecDepth 100000 in
set_option maxHeartbeats 1000000 in
theorem rname_any (w : World) (s : ByteArray) : Calls Tryd.prog 13 #[.string s] w fun e w' => e = .returned (.bool (nameP s.data.toList)) ∧ Ext w w' := by
  obtain ⟨n, hn⟩ : ∃ n, s.size = n := ⟨_, rfl⟩
  obtain ⟨l, hL⟩ : ∃ l, s.data.toList = l := ⟨_, rfl⟩
  have hl : l.length = n := by rw [← hL]; exact hn
  obtain ⟨r, hr⟩ : ∃ r, nameP l = r := ⟨_, rfl⟩
  rw [hL, hr]
  have HR := Lib.hid hr
  have HL := Lib.hid hL
  have HLL := Lib.hid hl
  clear hr hL hl
  by_cases h0 : n = 0
  · subst h0
    have e0 : s.toList.isEmpty = true := by rw [str_empty, hn]; rfl
    have HN := Lib.hid hn
    clear hn
    go_enter Tryd.func13, Tryd.ntmps13
    go_wp2_with fail
    go_ret
    exact ⟨ret_of (bool_eq (rname_not HR.out (.inl HLL.out)).symm), Ext.refl _⟩
  · have e0 : s.toList.isEmpty = false := by rw [str_empty, hn]; exact decide_eq_false h0
    by_cases h64 : 64 < n
    · have d64 : decide ((64 : Int) < (s.size : Int)) = true := decide_eq_true (by omega)
      have d64n : decide (64 < s.size) = true := decide_eq_true (by omega)
      have HN := Lib.hid hn
      clear hn
      go_enter Tryd.func13, Tryd.ntmps13
      go_wp2_with fail
      go_ret
      exact ⟨ret_of (bool_eq (rname_not HR.out (.inr (.inl (by rw [HLL.out]; exact h64)))).symm), Ext.refl _⟩
    · have d64 : decide ((64 : Int) < (s.size : Int)) = false := decide_eq_false (by omega)
      have d64n : decide (64 < s.size) = false := decide_eq_false (by omega)
      have hs0 : 0 < s.size := by omega
      have H0 : Hid (0 < l.length) := Lib.hid (by rw [HLL.out]; omega)
      obtain ⟨c, hc⟩ : ∃ c, s[0]'hs0 = c := ⟨_, rfl⟩
      have hc0 : headB digB l = digB c := by rw [head_get H0.out, ← hc, ← str_get s 0 hs0]; congr 1; exact get_of HL.out.symm _
      have HC := Lib.hid hc
      have HN := Lib.hid hn
      have HC0 := Lib.hid hc0
      clear hn hc hc0
      go_enter Tryd.func13, Tryd.ntmps13
      go_wp2_with fail
      rw [HC.out]
      refine (rdigit_any _ c).mono ?_
      rintro e w' ⟨rfl, rfl⟩
      obtain ⟨b, hb⟩ : ∃ b, digB c = b := ⟨_, rfl⟩
      have HB := Lib.hid hb
      rw [hb]
      clear hb
      cases b
      · go_wp2_with fail
        refine (rkey_any s _).mono ?_
        rintro e w1 ⟨rfl, he⟩
        rw [HL.out]
        obtain ⟨b, hb⟩ : ∃ b, keyB l = b := ⟨_, rfl⟩
        rw [hb]
        have HK := Lib.hid hb
        clear hb
        have HE := Lib.hid he
        clear he
        cases b
        · have HALL := Lib.hid (rname_all HR.out (by have := H0.out; omega) (by rw [HLL.out]; exact h64) (by rw [HC0.out, HB.out]) HK.out)
          go_wp2_with fail
          go_loopw [3] (fun v wr => ∃ k : Nat, v = .int .i64 (k : Int) ∧ k ≤ n ∧ wr = w1 ∧ Hid ((l.drop k).all wrdB = r)) (fun v _ => n - (intOf v).toNat)
          case atStart => exact ⟨0, rfl, by omega, rfl, HALL⟩
          case round =>
            obtain ⟨k, rfl, hk, rfl, HK2⟩ := hrel
            by_cases hkn : k < n
            · have HNN := HN.out
              have d1 : decide ((k : Int) < (s.size : Int)) = true := decide_eq_true (by omega)
              have d1n : decide (k < s.size) = true := decide_eq_true (by omega)
              have hks : k < s.size := by omega
              clear HNN
              obtain ⟨c, hc⟩ : ∃ c, s[k]'hks = c := ⟨_, rfl⟩
              have hkl : k < l.length := by rw [HLL.out]; exact hkn
              have hd : l.drop k = c :: l.drop (k + 1) := by rw [List.drop_eq_getElem_cons hkl, ← hc]; congr 1; rw [← str_get]; exact get_of HL.out.symm _
              have HC := Lib.hid hc
              have hrun := HK2.out
              rw [hd, List.all_cons] at hrun
              have HK := Lib.hid hrun
              clear hrun hd hc HK2 hkl
              go_wp2_with fail
              rw [HC.out]
              refine (rletter_any _ c).mono ?_
              rintro e w' ⟨rfl, rfl⟩
              obtain ⟨b, hb⟩ : ∃ b, letB c = b := ⟨_, rfl⟩
              have HB := Lib.hid hb
              rw [hb]
              clear hb
              cases b
              · go_wp2_with fail
                rw [HC.out]
                refine (rdigit_any _ c).mono ?_
                rintro e w' ⟨rfl, rfl⟩
                obtain ⟨b, hb⟩ : ∃ b, digB c = b := ⟨_, rfl⟩
                have HD := Lib.hid hb
                rw [hb]
                clear hb
                cases b
                · go_wp2_with fail
                  go_ret
                  have hw : wrdB c = false := by unfold wrdB; rw [HB.out, HD.out]; rfl
                  have h := HK.out
                  rw [hw] at h
                  exact ⟨ret_of (bool_eq h), HE.out⟩
                · go_wp2_with fail
                  go_roundw
                  case rel =>
                    have hw : wrdB c = true := by unfold wrdB; rw [HB.out, HD.out]; rfl
                    have h := HK.out
                    rw [hw] at h
                    exact ⟨k + 1, by simp, by omega, by first | rfl | trivial, Lib.hid h⟩
                  case measure => simp [intOf]; omega
              · go_wp2_with fail
                go_roundw
                case rel =>
                  have hw : wrdB c = true := by unfold wrdB; rw [HB.out]; rfl
                  have h := HK.out
                  rw [hw] at h
                  exact ⟨k + 1, by simp, by omega, by first | rfl | trivial, Lib.hid h⟩
                case measure => simp [intOf]; omega
            · have HNN := HN.out
              have d1 : decide ((k : Int) < (s.size : Int)) = false := decide_eq_false (by omega)
              have d1n : decide (k < s.size) = false := decide_eq_false (by omega)
              clear HNN
              have h := HK2.out
              rw [List.drop_eq_nil_of_le (by have := HLL.out; omega)] at h
              have HK := Lib.hid h
              clear h HK2
              go_wp2_with fail
              go_ret
              exact ⟨ret_of (bool_eq HK.out), HE.out⟩
        · go_wp2_with fail
          go_ret
          exact ⟨ret_of (bool_eq (rname_not HR.out (.inr (.inr (.inr HK.out)))).symm), HE.out⟩
      · go_wp2_with fail
        go_ret
        exact ⟨ret_of (bool_eq (rname_not HR.out (.inr (.inr (.inl (by rw [HC0.out, HB.out]))))).symm), Ext.refl _⟩
end Go.Proofs.YthknpnhiijbgfaaDoor
