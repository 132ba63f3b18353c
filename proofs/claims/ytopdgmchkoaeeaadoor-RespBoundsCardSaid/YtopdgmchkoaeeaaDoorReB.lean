/- The document's line of digits. -/
import Derived.Test.YtopdgmchkoaeeaaDoorReA
namespace Go.Proofs.YtopdgmchkoaeeaaDoor
open Go.RowKit
set_option linter.unusedVariables false
set_option linter.unusedSimpArgs false

/-- What digits leaves. -/
def DigE (w : World) (g : Nat) (s : ByteArray) (t i : Int) (r : Except Int (Nat × Nat)) (e : Ending) (w' : World) : Prop :=
  Only g w w' ∧ ∃ n : Nat, n ≤ 9223372036854775808 ∧ e = .returned (.int .u64 (n : Int)) ∧ (match r with
    | .ok x => n = x.1 ∧ RBlk w' g s (x.2 : Int) 0 t i
    | .error c => RefAt w' g s t i (.error c))
theorem DigE.ok {w : World} {g : Nat} {s : ByteArray} {t i : Int} {r : Except Int (Nat × Nat)} {e : Ending} {w' : World} {n p : Nat} (hr : r = .ok (n, p)) (hn : n ≤ 9223372036854775808) (he : e = .returned (.int .u64 (n : Int))) (hb : RBlk w' g s (p : Int) 0 t i) (ho : Only g w w') : DigE w g s t i r e w' := by
  subst hr; exact ⟨ho, n, hn, he, rfl, hb⟩
theorem DigE.err {w : World} {g : Nat} {s : ByteArray} {t i : Int} {r : Except Int (Nat × Nat)} {e : Ending} {w' : World} {c : Int} (n : Nat) (hr : r = .error c) (hn : n ≤ 9223372036854775808) (he : e = .returned (.int .u64 (n : Int))) (hb : RefAt w' g s t i (.error c)) (ho : Only g w w') : DigE w g s t i r e w' := by
  subst hr; exact ⟨ho, n, hn, he, hb⟩

set_option maxRecDepth 100000 in
set_option maxHeartbeats 4000000 in
theorem digits_bad (n0 m0 : Int) (least most : Int) (w : World) (g : Nat) (s : ByteArray) (t i c : Int) (h : RefAt w g s t i (.error c)) (hn : 0 ≤ n0) :
    Calls Tryd.prog 47 #[.pointer (some ⟨g, 0, none⟩), .int .u64 n0, .int .i64 m0, .int .u64 least, .int .u64 most] w fun e w' => e = .returned (.int .u64 0) ∧ w' = w := by
  obtain ⟨hc, p, t', i', hb⟩ := h
  have c2 := hb.cell 2
  have e0 : (c == 0) = false := by simpa using hc
  simp only [List.getElem?_toArray, List.getElem?_cons_zero, List.getElem?_cons_succ] at c2
  clear hb hc
  go_enter Tryd.func47, Tryd.ntmps47
  go_wp2_with fail
  go_loopw [1, 2] (fun vn vm wr => vn = .int .u64 n0 ∧ vm = .int .i64 m0 ∧ wr = w) (fun _ _ _ => 0)
  case atStart => exact ⟨rfl, rfl, rfl⟩
  case round =>
    obtain ⟨rfl, rfl, rfl⟩ := hrel
    go_wp2_with fail
    go_ret
    exact ⟨rfl, rfl⟩
set_option maxRecDepth 100000 in
set_option maxHeartbeats 8000000 in
theorem digits_any (n0 m0 least most : Nat) (w : World) (g : Nat) (s : ByteArray) (p : Nat) (t i : Int) (h : RBlk w g s p 0 t i) (hl : least ≤ 1) (hm : most ≤ 9223372036854775808) (hs : s.size ≤ 9223372036854775000) (hn : n0 ≤ most) (hm0 : m0 ≤ 1) :
    Calls Tryd.prog 47 #[.pointer (some ⟨g, 0, none⟩), .int .u64 n0, .int .i64 m0, .int .u64 least, .int .u64 most] w (DigE w g s t i (numS s.data.toList least most (s.data.toList.length - p) m0 n0 p)) := by
  obtain ⟨l, hll⟩ : ∃ l, s.data.toList = l := ⟨_, rfl⟩
  have hsz : l.length = s.size := by rw [← hll]; rfl
  have HN : Hid (∀ (w : World) (p : Nat) (h : RBlk w g s p 0 t i) (hp : p < l.length), Calls Tryd.prog 66 #[.pointer (some ⟨g, 0, none⟩)] w fun e w' => e = .returned (.int .u8 (l[p].toNat : Int)) ∧ RBlk w' g s ((p + 1 : Nat) : Int) 0 t i ∧ Only g w w') := Lib.hid (by
    subst hll; exact fun w p h hp => next_ok w g s p t i h hp (by omega))
  have HX : Hid (∀ (w : World) (p : Nat) (h : RBlk w g s p 0 t i) (hp : ¬ p < l.length), Calls Tryd.prog 66 #[.pointer (some ⟨g, 0, none⟩)] w fun e w' => e = .returned (.int .u8 0) ∧ RBlk w' g s p 130 t i ∧ Only g w w') := Lib.hid (by
    subst hll; exact fun w p h hp => next_end w g s p t i h hp)
  have HW : Hid (∀ (w : World) (p : Nat) (h : RBlk w g s p 0 t i), Calls Tryd.prog 46 #[.pointer (some ⟨g, 0, none⟩), .int .u8 10] w fun e w' => e = .returned (.tuple #[]) ∧ RefAt w' g s t i (skipS l [10] p) ∧ Only g w w') := Lib.hid (by
    subst hll; exact fun w p h => want_any 10 w g s t i (.ok p) h (by decide) (by omega))
  rw [hll]
  obtain ⟨r, hr⟩ : ∃ r, numS l least most (l.length - p) m0 n0 p = r := ⟨_, rfl⟩
  rw [hr]
  have HR := Lib.hid hr
  have H := Lib.hid h
  have HSZ := Lib.hid hsz
  clear hr h hll hsz
  go_enter Tryd.func47, Tryd.ntmps47
  go_wp2_with fail
  go_loopw [1, 2] (fun vn vm wr => ∃ n k : Nat, vn = .int .u64 n ∧ vm = .int .i64 ((m0 + k : Nat) : Int) ∧ n ≤ most ∧ Hid (2 ≤ m0 + k → 0 < n) ∧ Hid (p + k ≤ l.length ∨ k = 0) ∧ Hid (RBlk wr g s ((p + k : Nat) : Int) 0 t i) ∧ Hid (Only g w wr) ∧ Hid (numS l least most (l.length - (p + k)) (m0 + k) n (p + k) = r)) (fun _ vm _ => (l.length + 1 + m0) - (p + (intOf vm).toNat))
  case atStart => exact ⟨n0, 0, rfl, rfl, hn, Lib.hid (by omega), Lib.hid (.inr rfl), H, Lib.hid (Only.refl _ _), HR⟩
  case round =>
    obtain ⟨n, k, rfl, rfl, hnm, HP, HB, HI, HO, HS⟩ := hrel
    clear HR H hn
    have c2 := HI.out.cell 2
    simp only [List.getElem?_toArray, List.getElem?_cons_zero, List.getElem?_cons_succ] at c2
    by_cases hp : p + k < l.length
    · have hk1 : m0 + k ≤ 9223372036854775806 := by have := HSZ.out; omega
      have c1 := HN.out _ _ HI.out hp
      have S := HS.out
      rw [num_step hp] at S
      have hb := UInt8.toNat_lt (l[p + k])
      generalize l[p + k].toNat = c at S c1 hb
      have HD := Lib.hid S
      have HC := Lib.hid c1
      clear c1 S HS
      obtain ⟨m, hmk⟩ : ∃ m, m0 + k = m := ⟨_, rfl⟩
      rw [hmk] at HP HD hk1
      have HMK := Lib.hid hmk
      rw [hmk]
      clear hmk hm0
      have k0 : (0 : Int) ≤ (c : Int) := by omega
      have k1 : (c : Int) < 256 := by omega
      go_wp2_with fail
      refine HC.out.mono ?_
      rintro e w' ⟨rfl, h1, o1⟩
      have c2 := h1.cell 2
      simp only [List.getElem?_toArray, List.getElem?_cons_zero, List.getElem?_cons_succ] at c2
      have HI2 := Lib.hid h1
      have HO2 := Lib.hid (HO.out.trans o1)
      clear h1 o1 HI HO HC
      by_cases h13 : c = 13 ∧ 0 < m
      · obtain ⟨rfl, hm1⟩ := h13
        have HE : Hid ((skipS l [10] (p + k + 1)).map (fun q => (n, q)) = r) := Lib.hid (by
          have S := HD.out
          rw [if_pos ⟨rfl, hm1⟩] at S
          exact S)
        have e2 : decide ((0 : Int) < (m : Int)) = true := decide_eq_true (by omega)
        have e2n : decide (0 < m) = true := decide_eq_true hm1
        clear HD
        go_wp2_with fail
        refine (HW.out _ _ HI2.out).mono ?_
        rintro e w2 ⟨rfl, b2, o2⟩
        have HO3 := Lib.hid (HO2.out.trans o2)
        have HB2 := Lib.hid b2
        clear b2 o2
        go_wp2_with fail
        go_ret
        have S := HE.out
        have B := HB2.out
        cases hsr : skipS l [10] (p + k + 1) with
        | error x => rw [hsr] at S B; exact DigE.err n S.symm (by omega) rfl B HO3.out
        | ok x => rw [hsr] at S B; exact DigE.ok S.symm (by omega) rfl B HO3.out
      · by_cases hlo : c < 48
        · have e3 : decide ((c : Int) < 48) = true := decide_eq_true (by omega)
          by_cases hc13 : c = 13
          · have e13 : ((c : Int) == 13) = true := beq_iff_eq.2 (by omega)
            have e7 : decide ((0 : Int) < (m : Int)) = false := decide_eq_false (by omega)
            have e7n : decide (0 < m) = false := decide_eq_false (by omega)
            have HE : Hid (Except.error (131 : Int) = r) := Lib.hid (by
              have S := HD.out
              rw [if_neg (by omega), if_pos (by omega)] at S
              exact S)
            clear HD hnm hc13 h13
            go_wp2_with fail
            refine (fail_ok _ _ _ _ _ _ _ HI2.out).mono ?_
            rintro e w2 ⟨rfl, b2, o2⟩
            go_wp2_with fail
            go_ret
            exact DigE.err 0 HE.out.symm (by omega) rfl ⟨by decide, _, _, _, b2⟩ (HO2.out.trans o2)
          · have e13 : ((c : Int) == 13) = false := beq_eq_false_iff_ne.2 (by omega)
            have HE : Hid (Except.error (131 : Int) = r) := Lib.hid (by
              have S := HD.out
              rw [if_neg (by omega), if_pos (by omega)] at S
              exact S)
            clear HD hnm h13
            go_wp2_with fail
            refine (fail_ok _ _ _ _ _ _ _ HI2.out).mono ?_
            rintro e w2 ⟨rfl, b2, o2⟩
            go_wp2_with fail
            go_ret
            exact DigE.err 0 HE.out.symm (by omega) rfl ⟨by decide, _, _, _, b2⟩ (HO2.out.trans o2)
        · have e13 : ((c : Int) == 13) = false := beq_eq_false_iff_ne.2 (by omega)
          have e3 : decide ((c : Int) < 48) = false := decide_eq_false (by omega)
          clear h13
          by_cases hhi : 57 < c
          · have e4 : decide ((57 : Int) < (c : Int)) = true := decide_eq_true (by omega)
            have HE : Hid (Except.error (131 : Int) = r) := Lib.hid (by
              have S := HD.out
              rw [if_neg (by omega), if_pos (by omega)] at S
              exact S)
            clear HD hnm
            go_wp2_with fail
            refine (fail_ok _ _ _ _ _ _ _ HI2.out).mono ?_
            rintro e w2 ⟨rfl, b2, o2⟩
            go_wp2_with fail
            go_ret
            exact DigE.err 0 HE.out.symm (by omega) rfl ⟨by decide, _, _, _, b2⟩ (HO2.out.trans o2)
          · have e4 : decide ((57 : Int) < (c : Int)) = false := decide_eq_false (by omega)
            have d2 : IntKind.u64.wrap ((c : Int) - 48) = (c : Int) - 48 := IntWalk.u64_in _ (by omega)
            by_cases hm1 : m < 1
            · have e7 : decide ((0 : Int) < (m : Int)) = false := decide_eq_false (by omega)
              have e7n : decide (0 < m) = false := decide_eq_false (by omega)
              have e8 : ((m : Int) == 0) = true := beq_iff_eq.2 (by omega)
              by_cases h48 : c < 49
              · have e6 : (((c : Int) - 48) == 0) = true := beq_iff_eq.2 (by omega)
                by_cases hl1 : least < 1
                · have e5 : decide ((0 : Int) < (least : Int)) = false := decide_eq_false (by omega)
                  have e5n : decide (0 < least) = false := decide_eq_false (by omega)
                  by_cases hd1 : most < c - 48
                  · omega
                  · have g1 : decide ((most : Int) < (c : Int) - 48) = false := decide_eq_false (by omega)
                    have d5 : IntKind.u64.wrap ((most : Int) - ((c : Int) - 48)) = (most : Int) - ((c : Int) - 48) := IntWalk.u64_in _ (by omega)
                    by_cases hr : 10 * n + (c - 48) ≤ most
                    · have g2 : decide (((most : Int) - ((c : Int) - 48)) / 10 < (n : Int)) = false := decide_eq_false (by omega)
                      have d3 : IntKind.u64.wrap (10 * (n : Int)) = 10 * (n : Int) := IntWalk.u64_in _ (by omega)
                      have d8 : IntKind.u64.wrap (10 * (n : Int) + ((c : Int) - 48)) = 10 * (n : Int) + ((c : Int) - 48) := IntWalk.u64_in _ (by omega)
                      have HE : Hid (numS l least most (l.length - (p + k + 1)) (m + 1) (10 * n + (c - 48)) (p + k + 1) = r) := Lib.hid (by
                        have S := HD.out
                        rw [if_neg (by omega), if_neg (by omega), if_pos hr] at S
                        exact S)
                      clear HD
                      go_wp2_with fail
                      refine ⟨⟨10 * n + (c - 48), k + 1, congrArg (Value.int .u64) (by omega), congrArg (Value.int .i64) (by have := HMK.out; omega), hr, Lib.hid (by have := HMK.out; omega), Lib.hid (.inl (by omega)), HI2, HO2, Lib.hid (by have h := HE.out; rw [← HMK.out] at h; exact h)⟩, by have := HMK.out; simp [intOf]; omega⟩
                    · have g2 : decide (((most : Int) - ((c : Int) - 48)) / 10 < (n : Int)) = true := decide_eq_true (by omega)
                      have HE : Hid (Except.error (131 : Int) = r) := Lib.hid (by
                        have S := HD.out
                        rw [if_neg (by omega), if_neg (by omega), if_neg (by omega)] at S
                        exact S)
                      clear HD hnm
                      go_wp2_with fail
                      refine (fail_ok _ _ _ _ _ _ _ HI2.out).mono ?_
                      rintro e w2 ⟨rfl, b2, o2⟩
                      go_wp2_with fail
                      go_ret
                      exact DigE.err 0 HE.out.symm (by omega) rfl ⟨by decide, _, _, _, b2⟩ (HO2.out.trans o2)
                · have e5 : decide ((0 : Int) < (least : Int)) = true := decide_eq_true (by omega)
                  have e5n : decide (0 < least) = true := decide_eq_true (by omega)
                  have HE : Hid (Except.error (131 : Int) = r) := Lib.hid (by
                    have S := HD.out
                    rw [if_neg (by omega), if_pos (by omega)] at S
                    exact S)
                  clear HD hnm
                  go_wp2_with fail
                  refine (fail_ok _ _ _ _ _ _ _ HI2.out).mono ?_
                  rintro e w2 ⟨rfl, b2, o2⟩
                  go_wp2_with fail
                  go_ret
                  exact DigE.err 0 HE.out.symm (by omega) rfl ⟨by decide, _, _, _, b2⟩ (HO2.out.trans o2)
              · have e6 : (((c : Int) - 48) == 0) = false := beq_eq_false_iff_ne.2 (by omega)
                by_cases hd1 : most < c - 48
                · have g1 : decide ((most : Int) < (c : Int) - 48) = true := decide_eq_true (by omega)
                  have HE : Hid (Except.error (131 : Int) = r) := Lib.hid (by
                    have S := HD.out
                    rw [if_neg (by omega), if_neg (by omega), if_neg (by omega)] at S
                    exact S)
                  clear HD hnm
                  go_wp2_with fail
                  refine (fail_ok _ _ _ _ _ _ _ HI2.out).mono ?_
                  rintro e w2 ⟨rfl, b2, o2⟩
                  go_wp2_with fail
                  go_ret
                  exact DigE.err 0 HE.out.symm (by omega) rfl ⟨by decide, _, _, _, b2⟩ (HO2.out.trans o2)
                · have g1 : decide ((most : Int) < (c : Int) - 48) = false := decide_eq_false (by omega)
                  have d5 : IntKind.u64.wrap ((most : Int) - ((c : Int) - 48)) = (most : Int) - ((c : Int) - 48) := IntWalk.u64_in _ (by omega)
                  by_cases hr : 10 * n + (c - 48) ≤ most
                  · have g2 : decide (((most : Int) - ((c : Int) - 48)) / 10 < (n : Int)) = false := decide_eq_false (by omega)
                    have d3 : IntKind.u64.wrap (10 * (n : Int)) = 10 * (n : Int) := IntWalk.u64_in _ (by omega)
                    have d8 : IntKind.u64.wrap (10 * (n : Int) + ((c : Int) - 48)) = 10 * (n : Int) + ((c : Int) - 48) := IntWalk.u64_in _ (by omega)
                    have HE : Hid (numS l least most (l.length - (p + k + 1)) (m + 1) (10 * n + (c - 48)) (p + k + 1) = r) := Lib.hid (by
                      have S := HD.out
                      rw [if_neg (by omega), if_neg (by omega), if_pos hr] at S
                      exact S)
                    clear HD
                    go_wp2_with fail
                    refine ⟨⟨10 * n + (c - 48), k + 1, congrArg (Value.int .u64) (by omega), congrArg (Value.int .i64) (by have := HMK.out; omega), hr, Lib.hid (by have := HMK.out; omega), Lib.hid (.inl (by omega)), HI2, HO2, Lib.hid (by have h := HE.out; rw [← HMK.out] at h; exact h)⟩, by have := HMK.out; simp [intOf]; omega⟩
                  · have g2 : decide (((most : Int) - ((c : Int) - 48)) / 10 < (n : Int)) = true := decide_eq_true (by omega)
                    have HE : Hid (Except.error (131 : Int) = r) := Lib.hid (by
                      have S := HD.out
                      rw [if_neg (by omega), if_neg (by omega), if_neg (by omega)] at S
                      exact S)
                    clear HD hnm
                    go_wp2_with fail
                    refine (fail_ok _ _ _ _ _ _ _ HI2.out).mono ?_
                    rintro e w2 ⟨rfl, b2, o2⟩
                    go_wp2_with fail
                    go_ret
                    exact DigE.err 0 HE.out.symm (by omega) rfl ⟨by decide, _, _, _, b2⟩ (HO2.out.trans o2)
            · have e7 : decide ((0 : Int) < (m : Int)) = true := decide_eq_true (by omega)
              have e7n : decide (0 < m) = true := decide_eq_true (by omega)
              have e8 : ((m : Int) == 0) = false := beq_eq_false_iff_ne.2 (by omega)
              by_cases hn1 : n < 1
              · have e9 : ((n : Int) == 0) = true := beq_iff_eq.2 (by omega)
                have := HP.out
                have HE : Hid (Except.error (131 : Int) = r) := Lib.hid (by
                  have S := HD.out
                  rw [if_neg (by omega), if_pos (by omega)] at S
                  exact S)
                clear HD hnm this
                go_wp2_with fail
                refine (fail_ok _ _ _ _ _ _ _ HI2.out).mono ?_
                rintro e w2 ⟨rfl, b2, o2⟩
                go_wp2_with fail
                go_ret
                exact DigE.err 0 HE.out.symm (by omega) rfl ⟨by decide, _, _, _, b2⟩ (HO2.out.trans o2)
              · have e9 : ((n : Int) == 0) = false := beq_eq_false_iff_ne.2 (by omega)
                by_cases hd1 : most < c - 48
                · have g1 : decide ((most : Int) < (c : Int) - 48) = true := decide_eq_true (by omega)
                  have HE : Hid (Except.error (131 : Int) = r) := Lib.hid (by
                    have S := HD.out
                    rw [if_neg (by omega), if_neg (by omega), if_neg (by omega)] at S
                    exact S)
                  clear HD hnm
                  go_wp2_with fail
                  refine (fail_ok _ _ _ _ _ _ _ HI2.out).mono ?_
                  rintro e w2 ⟨rfl, b2, o2⟩
                  go_wp2_with fail
                  go_ret
                  exact DigE.err 0 HE.out.symm (by omega) rfl ⟨by decide, _, _, _, b2⟩ (HO2.out.trans o2)
                · have g1 : decide ((most : Int) < (c : Int) - 48) = false := decide_eq_false (by omega)
                  have d5 : IntKind.u64.wrap ((most : Int) - ((c : Int) - 48)) = (most : Int) - ((c : Int) - 48) := IntWalk.u64_in _ (by omega)
                  by_cases hr : 10 * n + (c - 48) ≤ most
                  · have g2 : decide (((most : Int) - ((c : Int) - 48)) / 10 < (n : Int)) = false := decide_eq_false (by omega)
                    have d3 : IntKind.u64.wrap (10 * (n : Int)) = 10 * (n : Int) := IntWalk.u64_in _ (by omega)
                    have d8 : IntKind.u64.wrap (10 * (n : Int) + ((c : Int) - 48)) = 10 * (n : Int) + ((c : Int) - 48) := IntWalk.u64_in _ (by omega)
                    have HE : Hid (numS l least most (l.length - (p + k + 1)) (m + 1) (10 * n + (c - 48)) (p + k + 1) = r) := Lib.hid (by
                      have S := HD.out
                      rw [if_neg (by omega), if_neg (by omega), if_pos hr] at S
                      exact S)
                    clear HD
                    go_wp2_with fail
                    refine ⟨⟨10 * n + (c - 48), k + 1, congrArg (Value.int .u64) (by omega), congrArg (Value.int .i64) (by have := HMK.out; omega), hr, Lib.hid (by have := HMK.out; omega), Lib.hid (.inl (by omega)), HI2, HO2, Lib.hid (by have h := HE.out; rw [← HMK.out] at h; exact h)⟩, by have := HMK.out; simp [intOf]; omega⟩
                  · have g2 : decide (((most : Int) - ((c : Int) - 48)) / 10 < (n : Int)) = true := decide_eq_true (by omega)
                    have HE : Hid (Except.error (131 : Int) = r) := Lib.hid (by
                      have S := HD.out
                      rw [if_neg (by omega), if_neg (by omega), if_neg (by omega)] at S
                      exact S)
                    clear HD hnm
                    go_wp2_with fail
                    refine (fail_ok _ _ _ _ _ _ _ HI2.out).mono ?_
                    rintro e w2 ⟨rfl, b2, o2⟩
                    go_wp2_with fail
                    go_ret
                    exact DigE.err 0 HE.out.symm (by omega) rfl ⟨by decide, _, _, _, b2⟩ (HO2.out.trans o2)
    · have HE : Hid (Except.error (130 : Int) = r) := Lib.hid (by
        have S := HS.out
        rw [num_end hp] at S
        exact S)
      have HC := Lib.hid (HX.out _ _ HI.out hp)
      clear HS hp
      go_wp2_with fail
      refine HC.out.mono ?_
      rintro e w' ⟨rfl, b1, o1⟩
      have c2 := b1.cell 2
      simp only [List.getElem?_toArray, List.getElem?_cons_zero, List.getElem?_cons_succ] at c2
      have HB1 := Lib.hid b1
      have HO1 := Lib.hid (HO.out.trans o1)
      clear b1 o1 HC
      go_wp2_with fail
      go_ret
      exact DigE.err 0 HE.out.symm (by omega) rfl ⟨by decide, _, _, _, HB1.out⟩ HO1.out
end Go.Proofs.YtopdgmchkoaeeaaDoor
