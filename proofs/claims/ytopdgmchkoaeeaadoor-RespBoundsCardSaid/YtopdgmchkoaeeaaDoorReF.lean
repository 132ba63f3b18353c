/- The document's number with a sign. -/
import Derived.Test.YtopdgmchkoaeeaaDoorReE
import Derived.Laws.Bits64b
namespace Go.Proofs.YtopdgmchkoaeeaaDoor
open Go.RowKit
set_option linter.unusedVariables false
set_option linter.unusedSimpArgs false

theorem and63 (n : Nat) (h : n ≤ 9223372036854775807) : bits BinOp.and IntKind.u64 (n : Int) 9223372036854775807 = (n : Int) := by
  have h1 := bits_and_u64_nat n 9223372036854775807 (by omega) (by omega)
  have e : (9223372036854775807 : Nat) = 2 ^ 63 - 1 := by decide
  have h2 : n &&& 9223372036854775807 = n := by
    rw [e, Nat.and_two_pow_sub_one_eq_mod]
    exact Nat.mod_eq_of_lt (by omega)
  rw [h2] at h1
  exact h1
/-- What number leaves. -/
def SgnE (w : World) (g : Nat) (s : ByteArray) (t i : Int) (r : Except Int (Int × Nat)) (e : Ending) (w' : World) : Prop :=
  Only g w w' ∧ ∃ v : Int, e = .returned (.int .i64 v) ∧ (match r with
    | .ok y => v = y.1 ∧ RBlk w' g s (y.2 : Int) 0 t i
    | .error c => RefAt w' g s t i (.error c))
set_option maxRecDepth 100000 in
set_option maxHeartbeats 4000000 in
theorem rnumber_any (w : World) (g : Nat) (s : ByteArray) (p : Nat) (t i : Int) (h : RBlk w g s p 0 t i) (hp : p ≤ s.size) (hs : s.size ≤ 9223372036854775000) :
    Calls Tryd.prog 71 #[.pointer (some ⟨g, 0, none⟩)] w (SgnE w g s t i (signS s.data.toList p)) := by
  have hsz : s.data.toList.length = s.size := rfl
  obtain ⟨r, hr⟩ : ∃ r, signS s.data.toList p = r := ⟨_, rfl⟩
  rw [hr]
  unfold signS at hr
  by_cases hlt : p < s.size
  · have hpl : p < s.data.toList.length := hlt
    rw [dif_pos hpl] at hr
    have c1 := next_ok w g s p t i h hlt (by omega)
    have hb := UInt8.toNat_lt (s.data.toList[p])
    have HST := Lib.hid (num_step (l := s.data.toList) (a := 0) (b := 9223372036854775807) (m := 0) (n := 0) hpl)
    generalize s.data.toList[p].toNat = c at hr c1 hb HST
    have HC := Lib.hid c1
    have HLT := Lib.hid hlt
    have HSZ := Lib.hid hsz
    clear c1 h hsz hpl
    by_cases h45 : c = 45
    · rw [if_pos h45] at hr
      have HR := Lib.hid hr
      subst h45
      clear hr hb HST hlt
      go_enter Tryd.func71, Tryd.ntmps71
      go_wp2_with fail
      refine HC.out.mono ?_
      rintro e w1 ⟨rfl, h1, o1⟩
      have c2 := h1.cell 2
      simp only [List.getElem?_toArray, List.getElem?_cons_zero, List.getElem?_cons_succ] at c2
      have HO1 := Lib.hid o1
      have hD : Calls Tryd.prog 47 #[.pointer (some ⟨g, 0, none⟩), .int .u64 0, .int .i64 0, .int .u64 1, .int .u64 9223372036854775808] w1 (DigE w1 g s t i (numS s.data.toList 1 9223372036854775808 (s.data.toList.length - (p + 1)) 0 0 (p + 1))) := digits_any 0 0 1 9223372036854775808 w1 g s (p + 1) t i h1 (by omega) (by omega) hs (by omega) (by omega)
      have HD := Lib.hid hD
      clear h1 o1 HC hD
      go_wp2_with fail
      refine HD.out.mono ?_
      rintro e w2 ⟨o2, n, hn, rfl, hm⟩
      have HO2 := Lib.hid (HO1.out.trans o2)
      have S := HR.out
      cases hx : numS s.data.toList 1 9223372036854775808 (s.data.toList.length - (p + 1)) 0 0 (p + 1) with
      | error x =>
        rw [hx] at hm S
        have HM : Hid (RefAt w2 g s t i (.error x)) := Lib.hid hm
        have HS := Lib.hid S
        clear S hm hx HD o2 HR
        by_cases hn0 : n < 1
        · have e0 : ((n : Int) == 0) = true := beq_iff_eq.2 (by omega)
          go_wp2_with fail
          go_ret
          refine ⟨HO2.out, _, rfl, ?_⟩
          rw [← HS.out]
          exact HM.out
        · have e0 : ((n : Int) == 0) = false := beq_eq_false_iff_ne.2 (by omega)
          go_wp2_with fail
          go_ret
          refine ⟨HO2.out, _, rfl, ?_⟩
          rw [← HS.out]
          exact HM.out
      | ok x =>
        obtain ⟨n', p2⟩ := x
        rw [hx] at hm S
        obtain ⟨rfl, hb2⟩ := hm
        have hx1 : 1 ≤ n := num_least _ _ _ _ _ (.inl rfl) hx
        have d1 : IntKind.u64.wrap ((n : Int) - 1) = (n : Int) - 1 := IntWalk.u64_in _ (by omega)
        have d2 : IntKind.i64.wrap ((n : Int) - 1) = (n : Int) - 1 := IntWalk.i64_in _ (by omega)
        have d3 : IntKind.i64.wrap (-((n : Int) - 1)) = -((n : Int) - 1) := IntWalk.i64_in _ (by omega)
        have d4 : IntKind.i64.wrap (-((n : Int) - 1) - 1) = -(n : Int) := by rw [IntWalk.i64_in _ (by omega)]; omega
        have e0 : ((n : Int) == 0) = false := beq_eq_false_iff_ne.2 (by omega)
        have HS := Lib.hid S
        have HB2 := Lib.hid hb2
        clear S hb2 hx HD o2 HR
        go_wp2_with fail
        go_ret
        refine ⟨HO2.out, -(n : Int), by first | rfl | exact ret_of (int_eq (by omega)), ?_⟩
        rw [← HS.out]
        exact ⟨rfl, HB2.out⟩
    · rw [if_neg h45] at hr
      have HR := Lib.hid hr
      have e45 : ((c : Int) == 45) = false := beq_eq_false_iff_ne.2 (by omega)
      clear hr h45 hlt
      go_enter Tryd.func71, Tryd.ntmps71
      go_wp2_with fail
      refine HC.out.mono ?_
      rintro e w1 ⟨rfl, h1, o1⟩
      have c2 := h1.cell 2
      simp only [List.getElem?_toArray, List.getElem?_cons_zero, List.getElem?_cons_succ] at c2
      have HO1 := Lib.hid o1
      have HI1 := Lib.hid h1
      clear h1 o1 HC
      by_cases hlo : c < 48
      · have e3 : decide ((c : Int) < 48) = true := decide_eq_true (by omega)
        have HE : Hid (Except.error (131 : Int) = r) := Lib.hid (by
          have S := HR.out
          rw [HST.out, if_neg (by omega), if_pos (by omega)] at S
          exact S)
        clear HR HST
        go_wp2_with fail
        refine (fail_ok _ _ _ _ _ _ _ HI1.out).mono ?_
        rintro e w2 ⟨rfl, b2, o2⟩
        have HB2 := Lib.hid b2
        have HO2 := Lib.hid (HO1.out.trans o2)
        clear b2 o2
        go_wp2_with fail
        go_ret
        refine ⟨HO2.out, _, rfl, ?_⟩
        rw [← HE.out]
        exact ⟨by decide, _, _, _, HB2.out⟩
      · have e3 : decide ((c : Int) < 48) = false := decide_eq_false (by omega)
        by_cases hhi : 57 < c
        · have e4 : decide ((57 : Int) < (c : Int)) = true := decide_eq_true (by omega)
          have HE : Hid (Except.error (131 : Int) = r) := Lib.hid (by
            have S := HR.out
            rw [HST.out, if_neg (by omega), if_pos (by omega)] at S
            exact S)
          clear HR HST
          go_wp2_with fail
          refine (fail_ok _ _ _ _ _ _ _ HI1.out).mono ?_
          rintro e w2 ⟨rfl, b2, o2⟩
          have HB2 := Lib.hid b2
          have HO2 := Lib.hid (HO1.out.trans o2)
          clear b2 o2
          go_wp2_with fail
          go_ret
          refine ⟨HO2.out, _, rfl, ?_⟩
          rw [← HE.out]
          exact ⟨by decide, _, _, _, HB2.out⟩
        · have e4 : decide ((57 : Int) < (c : Int)) = false := decide_eq_false (by omega)
          have d2 : IntKind.u64.wrap ((c : Int) - 48) = (c : Int) - 48 := IntWalk.u64_in _ (by omega)
          have hnum : numS s.data.toList 0 9223372036854775807 (s.data.toList.length - p) 0 0 p = numS s.data.toList 0 9223372036854775807 (s.data.toList.length - (p + 1)) 1 (c - 48) (p + 1) := by
            rw [HST.out, if_neg (by omega), if_neg (by omega), if_pos (by omega)]
            simp
          have hD : Calls Tryd.prog 47 #[.pointer (some ⟨g, 0, none⟩), .int .u64 ((c : Int) - 48), .int .i64 1, .int .u64 0, .int .u64 9223372036854775807] w1 (DigE w1 g s t i (numS s.data.toList 0 9223372036854775807 (s.data.toList.length - (p + 1)) 1 (c - 48) (p + 1))) := by
            have h9 := digits_any (c - 48) 1 0 9223372036854775807 w1 g s (p + 1) t i HI1.out (by omega) (by omega) hs (by omega) (by omega)
            rw [show ((c - 48 : Nat) : Int) = (c : Int) - 48 by omega] at h9
            exact h9
          have hS := HR.out
          rw [hnum] at hS
          have HS := Lib.hid hS
          have HD := Lib.hid hD
          clear hD hnum hS HR HST
          go_wp2_with fail
          refine HD.out.mono ?_
          rintro e w2 ⟨o2, n, hn, rfl, hm⟩
          have HO2 := Lib.hid (HO1.out.trans o2)
          have S := HS.out
          cases hx : numS s.data.toList 0 9223372036854775807 (s.data.toList.length - (p + 1)) 1 (c - 48) (p + 1) with
          | error x =>
            rw [hx] at hm S
            have HM : Hid (RefAt w2 g s t i (.error x)) := Lib.hid hm
            have HE := Lib.hid S
            clear S hm hx HD o2 HS
            go_wp2_with fail
            go_ret
            refine ⟨HO2.out, _, rfl, ?_⟩
            rw [← HE.out]
            exact HM.out
          | ok x =>
            obtain ⟨n', p2⟩ := x
            rw [hx] at hm S
            obtain ⟨rfl, hb2⟩ := hm
            have hx2 : n ≤ 9223372036854775807 := (num_pos _ _ _ _ _ (by have := HLT.out; have := HSZ.out; omega) (by omega) hx).1
            have HE := Lib.hid S
            have HB2 := Lib.hid hb2
            clear S hb2 hx HD o2 HS
            go_wp2_with fail
            go_ret
            refine ⟨HO2.out, (n : Int), ?_, ?_⟩
            · have h63 := and63 n hx2
              simp only [h63]
              exact ret_of (int_eq (by show wrap64 (n : Int) = _; unfold wrap64; omega))
            · rw [← HE.out]
              exact ⟨rfl, HB2.out⟩
  · have hpl : ¬ p < s.data.toList.length := hlt
    rw [dif_neg hpl] at hr
    have HR := Lib.hid hr
    have HC := Lib.hid (next_end w g s p t i h hlt)
    clear hr h hlt hpl hsz
    go_enter Tryd.func71, Tryd.ntmps71
    go_wp2_with fail
    refine HC.out.mono ?_
    rintro e w1 ⟨rfl, b1, o1⟩
    have c2 := b1.cell 2
    simp only [List.getElem?_toArray, List.getElem?_cons_zero, List.getElem?_cons_succ] at c2
    have HB1 := Lib.hid b1
    have HO1 := Lib.hid o1
    clear b1 o1 HC
    go_wp2_with fail
    go_ret
    refine ⟨HO1.out, _, rfl, ?_⟩
    rw [← HR.out]
    exact ⟨by decide, _, _, _, HB1.out⟩
end Go.Proofs.YtopdgmchkoaeeaaDoor
