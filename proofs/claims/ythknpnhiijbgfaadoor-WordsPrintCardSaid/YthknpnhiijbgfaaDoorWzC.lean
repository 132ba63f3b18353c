/- Words: which words may be printed, a word as a text, words as a text, in the document. -/
import Derived.Test.YthknpnhiijbgfaaDoorWzA
import Derived.Test.YthknpnhiijbgfaaDoorMyC
import Derived.Test.YthknpnhiijbgfaaDoorQuR
import Derived.Test.YthknpnhiijbgfaaDoorWdV
import Derived.Lib.AppendStr
namespace Go.Proofs.YthknpnhiijbgfaaDoor
open Go.RowKit
set_option linter.unusedVariables false
set_option linter.unusedSimpArgs false

theorem any_signW (s : ByteArray) : (signW.any fun x => x.data == s.data) = signB s.data.toList := by
  unfold signW signB
  rw [List.any_map]
  congr 1
  funext x
  show (x.toArray == s.data) = _
  rw [Bool.eq_iff_iff, beq_iff_eq, beq_iff_eq]
  exact ⟨fun e => by rw [← e], fun e => by rw [e]⟩
set_option maxRecDepth 100000 in
set_option maxHeartbeats 2000000 in
theorem rsign_any (s : ByteArray) (w : World) : Calls Tryd.prog 57 #[.string s] w fun e w' => e = .returned (.bool (signB s.data.toList)) ∧ Ext w w' := by
  rw [← any_signW]
  obtain ⟨r, hr⟩ : ∃ r, (signW.any fun x => x.data == s.data) = r := ⟨_, rfl⟩
  rw [hr]
  have HR := Lib.hid hr
  clear hr
  go_enter Tryd.func57, Tryd.ntmps57
  go_wp2_with fail
  refine (rsigns_any w).mono ?_
  rintro e w1 ⟨rfl, hw1⟩
  have hb : Blk w1 w.heap.size 9 signV := by rw [← hw1]; exact Blk.new w _ _
  have HE : Hid (Ext w w1) := Lib.hid (by rw [← hw1]; exact (Ext.refl w).alloc _)
  have hcs := sign_cell hb
  have HCS := Lib.hid hcs
  have hlt : w.heap.size < w1.heap.size := hb.lt
  clear hw1 hb hcs
  go_wp2_with fail
  go_loopw [4] (fun i wr => ∃ k : Nat, k ≤ 24 ∧ i = .int .i64 k ∧ w1 = wr ∧ Hid ((signW.drop k).any (fun x => x.data == s.data) = r)) (fun i _ => 24 - (intOf i).toNat)
  case atStart => exact ⟨0, Nat.zero_le _, rfl, rfl, HR⟩
  case round =>
    obtain ⟨k, hk, rfl, rfl, H⟩ := hrel
    by_cases h1 : k < 24
    · have hkl : k < signW.length := h1
      have hc := HCS.out k hkl
      rw [Nat.zero_add, List.getD_eq_getElem?_getD, List.getElem?_eq_getElem hkl] at hc
      have hd := anyW_drop signW s k hkl
      rw [H.out] at hd
      obtain ⟨X, hX⟩ : ∃ X, signW[k] = X := ⟨_, rfl⟩
      have hc' : w1.cell? ⟨w.heap.size, k, none⟩ = some (.string X) := by rw [hc, ← hX]; rfl
      rw [hX] at hd
      have HD := Lib.hid hd
      clear hc hX hd hkl H
      cases h2 : (X.data == s.data)
      · have h3 := eq_str _ _ _ h2
        have HH : Hid ((signW.drop (k + 1)).any (fun x => x.data == s.data) = r) := Lib.hid (by
          have := HD.out; rw [h2, Bool.false_or] at this; exact this.symm)
        clear h2 HD
        go_wp2_with fail
        go_roundw
        case rel => exact ⟨k + 1, h1, by go_num, by first | rfl | trivial, HH⟩
        case measure => simp [intOf]; omega
      · have h3 := eq_str _ _ _ h2
        have hrr : r = true := by have := HD.out; rw [h2, Bool.true_or] at this; exact this
        clear h2 HD
        subst hrr
        go_wp2_with fail
        go_ret
        exact ⟨rfl, HE.out⟩
    · obtain rfl : k = 24 := by omega
      have hrr : r = false := H.out.symm
      subst hrr
      go_wp2_with fail
      go_ret
      exact ⟨rfl, HE.out⟩
set_option maxRecDepth 100000 in
set_option maxHeartbeats 2000000 in
theorem rmay_any (w : World) (x : Wd) : Calls Tryd.prog 41 #[.agg #[.int .i64 x.k, .string ⟨x.t.toArray⟩, .int .i64 x.n, .int .i64 x.a]] w fun e w' => e = .returned (.bool (mayP x)) ∧ Ext w w' := by
  obtain ⟨k, t, n, a⟩ := x
  obtain ⟨r, hr⟩ : ∃ r, mayP ⟨k, t, n, a⟩ = r := ⟨_, rfl⟩
  obtain ⟨T, hT⟩ : ∃ T : ByteArray, ⟨t.toArray⟩ = T := ⟨_, rfl⟩
  have hTt : T.data.toList = t := by rw [← hT]
  rw [hr]
  dsimp only
  rw [hT]
  have HR := Lib.hid hr
  have HTT := Lib.hid hTt
  clear hr hT hTt
  have HE0 : Hid (∀ o, Ext w (w.alloc o)) := Lib.hid fun o => (Ext.refl w).alloc o
  have hc : k = 0 ∨ k = 1 ∨ k = 2 ∨ k = 3 ∨ k = 4 ∨ (k ≠ 0 ∧ k ≠ 1 ∧ k ≠ 2 ∧ k ≠ 3 ∧ k ≠ 4) := by omega
  rcases hc with rfl | rfl | rfl | rfl | rfl | ⟨h0, h1, h2, h3, h4⟩
  · have HB : Hid (r = (nameP t && decide (n = 0))) := Lib.hid (by rw [← HR.out]; simp [mayP])
    obtain ⟨b, hb⟩ : ∃ b, nameP t = b := ⟨_, rfl⟩
    rw [hb] at HB
    have HNM := Lib.hid hb
    clear hb
    obtain ⟨z, hz⟩ : ∃ z, (n == 0) = z := ⟨_, rfl⟩
    have HZ : Hid (decide (n = 0) = z) := Lib.hid (by rw [← hz]; exact (Bool.beq_eq_decide_eq n 0).symm)
    rw [HZ.out] at HB
    go_enter Tryd.func41, Tryd.ntmps41
    go_wp2_with fail
    refine (rname_any _ T).mono ?_
    rintro e w1 ⟨rfl, he⟩
    rw [HTT.out, HNM.out]
    have HE := Lib.hid ((HE0.out _).trans he)
    have c2 := cell_of_ext (b := w.heap.size) (o := 2) (v := .int .i64 n) (by go_simp) he
    have hlt : w.heap.size < w1.heap.size := cell_lt0 c2
    clear he
    cases b <;> cases z <;> (go_wp2_with fail; go_ret; exact ⟨ret_of (bool_eq HB.out.symm), HE.out⟩)
  · have HB : Hid (r = (keyB t && decide (n = 0))) := Lib.hid (by rw [← HR.out]; simp [mayP])
    obtain ⟨b, hb⟩ : ∃ b, keyB t = b := ⟨_, rfl⟩
    rw [hb] at HB
    have HNM := Lib.hid hb
    clear hb
    obtain ⟨z, hz⟩ : ∃ z, (n == 0) = z := ⟨_, rfl⟩
    have HZ : Hid (decide (n = 0) = z) := Lib.hid (by rw [← hz]; exact (Bool.beq_eq_decide_eq n 0).symm)
    rw [HZ.out] at HB
    go_enter Tryd.func41, Tryd.ntmps41
    go_wp2_with fail
    refine (rkey_any T _).mono ?_
    rintro e w1 ⟨rfl, he⟩
    rw [HTT.out, HNM.out]
    have HE := Lib.hid ((HE0.out _).trans he)
    have c2 := cell_of_ext (b := w.heap.size) (o := 2) (v := .int .i64 n) (by go_simp) he
    have hlt : w.heap.size < w1.heap.size := cell_lt0 c2
    clear he
    cases b <;> cases z <;> (go_wp2_with fail; go_ret; exact ⟨ret_of (bool_eq HB.out.symm), HE.out⟩)
  · by_cases ht : T.size = 0
    · have e0 : T.toList.isEmpty = true := by rw [str_empty, ht]; rfl
      have ht0 : t = [] := by rw [← HTT.out]; exact List.eq_nil_of_length_eq_zero ht
      have HB : Hid (r = decide (0 ≤ n)) := Lib.hid (by rw [← HR.out]; simp [mayP, ht0])
      clear ht0
      go_enter Tryd.func41, Tryd.ntmps41
      go_wp2_with fail
      go_ret
      exact ⟨ret_of (bool_eq HB.out.symm), HE0.out _⟩
    · have e0 : T.toList.isEmpty = false := by rw [str_empty]; exact decide_eq_false ht
      have HB : Hid (r = false) := Lib.hid (by
        rw [← HR.out]
        have : t.isEmpty = false := by
          cases t with
          | nil => exact absurd (by have := congrArg List.length HTT.out; exact this) ht
          | cons c t => rfl
        simp [mayP, this])
      clear ht
      go_enter Tryd.func41, Tryd.ntmps41
      go_wp2_with fail
      go_ret
      exact ⟨ret_of (bool_eq HB.out.symm), HE0.out _⟩
  · have HB : Hid (r = (n == 0)) := Lib.hid (by rw [← HR.out, Bool.beq_eq_decide_eq]; simp [mayP])
    go_enter Tryd.func41, Tryd.ntmps41
    go_wp2_with fail
    go_ret
    exact ⟨ret_of (bool_eq HB.out.symm), HE0.out _⟩
  · have HB : Hid (r = (signB t && decide (n = 0))) := Lib.hid (by rw [← HR.out]; simp [mayP])
    obtain ⟨b, hb⟩ : ∃ b, signB t = b := ⟨_, rfl⟩
    rw [hb] at HB
    have HNM := Lib.hid hb
    clear hb
    obtain ⟨z, hz⟩ : ∃ z, (n == 0) = z := ⟨_, rfl⟩
    have HZ : Hid (decide (n = 0) = z) := Lib.hid (by rw [← hz]; exact (Bool.beq_eq_decide_eq n 0).symm)
    rw [HZ.out] at HB
    go_enter Tryd.func41, Tryd.ntmps41
    go_wp2_with fail
    refine (rsign_any T _).mono ?_
    rintro e w1 ⟨rfl, he⟩
    rw [HTT.out, HNM.out]
    have HE := Lib.hid ((HE0.out _).trans he)
    have c2 := cell_of_ext (b := w.heap.size) (o := 2) (v := .int .i64 n) (by go_simp) he
    have hlt : w.heap.size < w1.heap.size := cell_lt0 c2
    clear he
    cases b <;> cases z <;> (go_wp2_with fail; go_ret; exact ⟨ret_of (bool_eq HB.out.symm), HE.out⟩)
  · have HB : Hid (r = false) := Lib.hid (by rw [← HR.out]; exact may_other h0 h1 h2 h3 h4)
    have g0 : (k == 0) = false := by rw [beq_eq_false_iff_ne]; exact h0
    have g1 : (k == 1) = false := by rw [beq_eq_false_iff_ne]; exact h1
    have g2 : (k == 2) = false := by rw [beq_eq_false_iff_ne]; exact h2
    have g3 : (k == 3) = false := by rw [beq_eq_false_iff_ne]; exact h3
    have g4 : (k == 4) = false := by rw [beq_eq_false_iff_ne]; exact h4
    clear h0 h1 h2 h3 h4
    go_enter Tryd.func41, Tryd.ntmps41
    go_wp2_with fail
    go_ret
    exact ⟨ret_of (bool_eq HB.out.symm), HE0.out _⟩
set_option maxRecDepth 100000 in
set_option maxHeartbeats 2000000 in
theorem rtold_any (w : World) (x : Wd) (hP : Pow w) (hm : x.k = 2 → 0 ≤ x.n) (hn : x.n ≤ 9223372036854775807) (ht : x.t.length ≤ 1048576) : Calls Tryd.prog 42 #[.agg #[.int .i64 x.k, .string ⟨x.t.toArray⟩, .int .i64 x.n, .int .i64 x.a]] w fun e w' => e = .returned (.string ⟨(toldP x).toArray⟩) ∧ Ext w w' := by
  obtain ⟨k, t, n, a⟩ := x
  have HP := Lib.hid hP
  clear hP
  obtain ⟨r, hr⟩ : ∃ r, toldP ⟨k, t, n, a⟩ = r := ⟨_, rfl⟩
  obtain ⟨T, hT⟩ : ∃ T : ByteArray, ⟨t.toArray⟩ = T := ⟨_, rfl⟩
  have hTt : T.data.toList = t := by rw [← hT]
  have hTs : T.size ≤ 1048576 := by rw [← hT]; exact ht
  rw [hr]
  dsimp only at hm hn ⊢
  rw [hT]
  have HR := Lib.hid hr
  have HT := Lib.hid hT
  have HTT := Lib.hid hTt
  clear hr hT hTt ht
  have HE0 : Hid (∀ o, Ext w (w.alloc o)) := Lib.hid fun o => (Ext.refl w).alloc o
  by_cases h2 : k = 2
  · subst h2
    have hn0 := hm rfl
    have HB : Hid (r = Lib.itoa n) := Lib.hid (by
      rw [← HR.out]
      obtain ⟨u, rfl⟩ : ∃ u : Nat, n = u := ⟨n.toNat, by omega⟩
      rw [Lib.itoa_nonneg]
      rfl)
    clear hm
    go_enter Tryd.func42, Tryd.ntmps42
    go_wp2_with fail
    refine (Tryd.strconv_FormatInt_10 n (by omega) hn _ (HP.out.ext (HE0.out _))).mono ?_
    rintro e w1 ⟨rfl, k, os, rfl⟩
    go_wp2_with fail
    go_ret
    rw [HB.out]
    exact ⟨rfl, (HE0.out _).grow k os⟩
  · have g2 : (k == 2) = false := by rw [beq_eq_false_iff_ne]; exact h2
    by_cases h3 : k = 3
    · subst h3
      have HB : Hid (r = quoteP t) := Lib.hid (by rw [← HR.out]; rfl)
      clear hm h2 g2
      go_enter Tryd.func42, Tryd.ntmps42
      go_wp2_with fail
      refine (rquote_any _ T hTs).mono ?_
      rintro e w1 ⟨rfl, he⟩
      have HE := Lib.hid he
      clear he
      rw [HTT.out]
      go_wp2_with fail
      go_ret
      rw [HB.out]
      exact ⟨rfl, (HE0.out _).trans HE.out⟩
    · have g3 : (k == 3) = false := by rw [beq_eq_false_iff_ne]; exact h3
      have HB : Hid (r = t) := Lib.hid (by rw [← HR.out]; unfold toldP; rw [if_neg h2, if_neg h3])
      clear hm h2 h3
      go_enter Tryd.func42, Tryd.ntmps42
      go_wp2_with fail
      go_ret
      rw [HB.out, HT.out]
      exact ⟨rfl, HE0.out _⟩
end Go.Proofs.YthknpnhiijbgfaaDoor
