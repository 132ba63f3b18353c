/- WordsBack's walk. -/
import Derived.Test.YthknpnhiijbgfaaDoorMyC
import Derived.Test.YthknpnhiijbgfaaDoorMyD
import Derived.Test.YthknpnhiijbgfaaDoorLxA
namespace Go.Proofs.YthknpnhiijbgfaaDoor
open Go.RowKit
set_option linter.unusedVariables false
set_option linter.unusedSimpArgs false

theorem alikeW_symm (x y : Wd) : alikeW x y = alikeW y x := by
  unfold alikeW
  rw [Bool.eq_iff_iff]
  simp only [Bool.and_eq_true, decide_eq_true_eq]
  exact ⟨fun h => ⟨⟨h.1.1.symm, h.1.2.symm⟩, h.2.symm⟩, fun h => ⟨⟨h.1.1.symm, h.1.2.symm⟩, h.2.symm⟩⟩
theorem alikeL_symm : ∀ (l m : List Wd), alikeL l m = alikeL m l
  | [], [] => rfl
  | [], _ :: _ => rfl
  | _ :: _, [] => rfl
  | a :: l, b :: m => by rw [alikeL, alikeL, alikeW_symm, alikeL_symm l m]
theorem quote_ge (t : List UInt8) : t.length ≤ (quoteP t).length := by
  have h : ∀ t : List UInt8, t.length ≤ (t.flatMap quoB).length := fun t => by
    induction t with
    | nil => simp
    | cons c t ih =>
      have h1 : 1 ≤ (quoB c).length := by unfold quoB; (repeat' split) <;> simp
      rw [List.flatMap_cons, List.length_append, List.length_cons]
      omega
  have := h t
  simp only [quoteP, List.length_cons, List.length_append, List.length_nil]
  omega
theorem may_size {x : Wd} (h : mayP x = true) : x.t.length ≤ (toldP x).length := by
  unfold toldP
  by_cases h2 : x.k = 2
  · rw [if_pos h2]
    unfold mayP at h
    rw [if_neg (by omega), if_neg (by omega), if_pos h2, Bool.and_eq_true, List.isEmpty_iff] at h
    rw [h.1]
    simp
  · rw [if_neg h2]
    split
    · exact quote_ge _
    · exact Nat.le_refl _
theorem told_le : ∀ (ws : List Wd) (x : Wd), x ∈ ws → (toldP x).length ≤ (joinP ws).length
  | [x], y, h => by
    rw [List.mem_singleton] at h
    subst h
    exact Nat.le_refl _
  | x :: z :: l, y, h => by
    rcases List.mem_cons.1 h with rfl | h
    · simp only [joinP, List.length_append]; omega
    · have := told_le (z :: l) y h
      simp only [joinP, List.length_append, List.length_cons]
      omega
set_option maxRecDepth 100000 in
set_option maxHeartbeats 1000000 in
theorem law_back (w : World) (s : ByteArray) (hL : Laid w) : Calls Tryd.prog 8 #[.string s] w fun e w' => e = .returned (.bool true) ∧ Ext w w' := by
  have HL := Lib.hid hL
  clear hL
  by_cases h : 3000 < s.size
  · have d1 : decide ((3000 : Int) < (s.size : Int)) = true := decide_eq_true (by omega)
    have d1n : decide (3000 < s.size) = true := decide_eq_true h
    go_enter Tryd.func8, Tryd.ntmps8
    go_wp2_with fail
    refine (known_any _ HL.out).mono ?_
    rintro e w1 ⟨rfl, he⟩
    have HE := Lib.hid he
    clear he
    go_wp2_with fail
    go_ret
    exact ⟨rfl, HE.out⟩
  · have d1 : decide ((3000 : Int) < (s.size : Int)) = false := decide_eq_false (by omega)
    have d1n : decide (3000 < s.size) = false := decide_eq_false h
    go_enter Tryd.func8, Tryd.ntmps8
    go_wp2_with fail
    refine (lex_any _ s (by omega) HL.out).mono ?_
    rintro e w1 ⟨he1, hr1⟩
    have HE1 := Lib.hid he1
    clear he1
    obtain ⟨r, hr⟩ : ∃ r, lexS s.data.toList = r := ⟨_, rfl⟩
    rw [hr] at hr1
    have HRR := Lib.hid hr
    clear hr
    cases r with
    | error p =>
      simp only at hr1
      subst hr1
      go_wp2_with fail
      refine (known_any _ (HL.out.ext HE1.out)).mono ?_
      rintro e w3 ⟨rfl, he⟩
      have HE3 := Lib.hid he
      clear he
      go_wp2_with fail
      go_ret
      exact ⟨rfl, HE1.out.trans HE3.out⟩
    | ok ws =>
      simp only at hr1
      obtain ⟨v, rfl, ho⟩ := hr1
      have hsl : s.data.toList.length = s.size := rfl
      obtain ⟨hm, hi, hj⟩ := lexS_may HRR.out
      have hlen := lexS_len HRR.out
      rw [hsl] at hj hlen
      have hj1 : (joinP ws).length ≤ 63000 := by omega
      have ht : ∀ x ∈ ws, x.t.length ≤ 1048576 := fun x hx => by
        have h1 := may_size (List.all_eq_true.1 hm x hx)
        have h2 := told_le ws x hx
        omega
      obtain ⟨m, hlm, ham⟩ := lexS_join ws hm hi
      have hml := lexS_len hlm
      rw [alikeL_symm] at ham
      have HV := Lib.hid ho.at
      have HLM := Lib.hid hlm
      have HAM := Lib.hid ham
      have HP := Lib.hid (print_any w1 v ws (HL.out.ext HE1.out) ho.at (by omega) hm hi ht (by omega))
      obtain ⟨q, hq⟩ : ∃ q : ByteArray, ⟨(joinP ws).toArray⟩ = q := ⟨_, rfl⟩
      have hqs : q.size ≤ 63000 := by rw [← hq]; exact hj1
      have hqd : q.data.toList = joinP ws := by rw [← hq]
      have HQ := Lib.hid hq
      have HQD := Lib.hid hqd
      have hws : ws.length ≤ 9223372036854775806 := by omega
      have hms : m.length ≤ 9223372036854775806 := by omega
      clear hm hi hj ht hlm ham ho hq hqd hml hlen
      go_wp2_with fail
      refine HP.out.mono ?_
      rintro e w2 ⟨rfl, he⟩
      have HE2 := Lib.hid he
      clear he
      rw [HQ.out]
      go_wp2_with fail
      refine (lex_any _ q (by omega) ((HL.out.ext HE1.out).ext HE2.out)).mono ?_
      rintro e w3 ⟨he3, hr3⟩
      have HE3 := Lib.hid he3
      clear he3
      rw [HQD.out, HLM.out] at hr3
      simp only at hr3
      obtain ⟨u, rfl, ho3⟩ := hr3
      have HS := Lib.hid (same_any w3 v u ws m ((HV.out.ext HE2.out).ext HE3.out) ho3.at hws hms)
      clear ho3
      go_wp2_with fail
      refine HS.out.mono ?_
      rintro e w4 ⟨rfl, he⟩
      have HE4 := Lib.hid he
      clear he
      rw [HAM.out]
      go_wp2_with fail
      refine (known_any _ ((((HL.out.ext HE1.out).ext HE2.out).ext HE3.out).ext HE4.out)).mono ?_
      rintro e w5 ⟨rfl, he⟩
      have HE5 := Lib.hid he
      clear he
      go_wp2_with fail
      go_ret
      exact ⟨rfl, (((HE1.out.trans HE2.out).trans HE3.out).trans HE4.out).trans HE5.out⟩
end Go.Proofs.YthknpnhiijbgfaaDoor
