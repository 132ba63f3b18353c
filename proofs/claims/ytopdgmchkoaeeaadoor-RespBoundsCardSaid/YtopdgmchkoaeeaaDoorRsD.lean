/- A line of digits. -/
import Derived.Test.YtopdgmchkoaeeaaDoorRsA
import Derived.Deep.DeepCutAuto
import Derived.Deep.CutBlock
namespace Go.Proofs.YtopdgmchkoaeeaaDoor
open Go.RowKit
set_option linter.unusedVariables false
set_option linter.unusedSimpArgs false

/-- What number leaves. -/
def NumE (w : World) (g : Nat) (q : Option Addr) (cap : Nat) (l : List UInt8) (t i : Int) (r : Except Int (Nat × Nat)) (e : Ending) (w' : World) : Prop :=
  match r with
  | .ok x => e = .returned (.int .u64 (x.1 : Int)) ∧ InAt w' g q cap l x.2 t i ∧ Only g w w'
  | .error c => Gave c e ∧ Only g w w'
theorem NumE.ok {w : World} {g : Nat} {q : Option Addr} {cap : Nat} {l : List UInt8} {t i : Int} {r : Except Int (Nat × Nat)} {e : Ending} {w' : World} {x : Nat × Nat} (hr : r = .ok x) (h : e = .returned (.int .u64 (x.1 : Int)) ∧ InAt w' g q cap l x.2 t i ∧ Only g w w') : NumE w g q cap l t i r e w' := by
  subst hr; exact h
theorem NumE.err {w : World} {g : Nat} {q : Option Addr} {cap : Nat} {l : List UInt8} {t i : Int} {r : Except Int (Nat × Nat)} {e : Ending} {w' : World} {c : Int} (hr : r = .error c) (h : Gave c e ∧ Only g w w') : NumE w g q cap l t i r e w' := by
  subst hr; exact h
theorem num_end {l : List UInt8} {a b m n p : Nat} (h : ¬ p < l.length) : numS l a b (l.length - p) m n p = .error 130 := by
  rw [show l.length - p = 0 by omega]; rfl
theorem num_step {l : List UInt8} {a b m n p : Nat} (h : p < l.length) : numS l a b (l.length - p) m n p =
      if l[p].toNat = 13 ∧ 0 < m then (skipS l [10] (p + 1)).map fun q => (n, q)
      else if l[p].toNat < 48 ∨ 57 < l[p].toNat ∨ (m = 1 ∧ n = 0) ∨ (m = 0 ∧ l[p].toNat - 48 < a) then .error 131
      else if 10 * n + (l[p].toNat - 48) ≤ b then numS l a b (l.length - (p + 1)) (m + 1) (10 * n + (l[p].toNat - 48)) (p + 1)
      else .error 131 := by
  rw [show l.length - p = (l.length - (p + 1)) + 1 by omega]
  simp only [numS, dif_pos h]

set_option maxRecDepth 100000 in
set_option maxHeartbeats 4000000 in
theorem number_any (least most : Nat) (w : World) (g : Nat) (q : Option Addr) (cap : Nat) (l : List UInt8) (p : Nat) (t i : Int) (h : InAt w g q cap l p t i) (hl : least ≤ 1) (hm : most ≤ 9223372036854775808) :
    Calls Tryd.prog 44 #[.pointer (some ⟨g, 0, none⟩), .int .u64 least, .int .u64 most] w (NumE w g q cap l t i (numS l least most (l.length - p) 0 0 p)) := by
  obtain ⟨r, hr⟩ : ∃ r, numS l least most (l.length - p) 0 0 p = r := ⟨_, rfl⟩
  rw [hr]
  have HR := Lib.hid hr
  have H := Lib.hid h
  have hll := h.len
  clear hr h
  go_enter Tryd.func44, Tryd.ntmps44
  go_wp2_with fail
  go_step3
  go_wp2_with fail
  go_step3
  go_wp2_with fail
  go_loopw [7, 8] (fun vn vm wr => ∃ n m : Nat, vn = .int .u64 n ∧ vm = .int .i64 m ∧ n ≤ most ∧ Hid (p + m ≤ l.length ∨ m = 0) ∧ Hid (InAt wr g q cap l ((p + m : Nat) : Int) t i) ∧ Hid (Only g w wr) ∧ Hid (numS l least most (l.length - (p + m)) m n (p + m) = r)) (fun _ vm _ => (l.length + 1) - (p + (intOf vm).toNat))
  case atStart => exact ⟨0, 0, rfl, rfl, Nat.zero_le _, Lib.hid (.inr rfl), Lib.hid H.out, Lib.hid (Only.refl _ _), HR⟩
  case round =>
    obtain ⟨n, m, rfl, rfl, hn, HB, HI, HO, HS⟩ := hrel
    clear HR H
    by_cases hp : p + m < l.length
    · have hm1 : m ≤ 9223372036854775806 := by omega
      have c1 := one_ok _ _ _ _ _ _ _ _ HI.out hp
      have S := HS.out
      rw [num_step hp] at S
      have hb := UInt8.toNat_lt (l[p + m])
      generalize l[p + m].toNat = c at S c1 hb
      have HD := Lib.hid S
      clear S HS
      have HC := Lib.hid c1
      clear c1
      have k0 : (0 : Int) ≤ (c : Int) := by omega
      have k1 : (c : Int) < 256 := by omega

      go_wp2_with fail
      refine HC.out.mono ?_
      rintro e w' ⟨rfl, h1, o1⟩
      have HI2 := Lib.hid h1
      have HO2 := Lib.hid (HO.out.trans o1)
      clear h1 o1 HI HO
      go_upto_block 2 with (fail)
      go_cut [9] (fun v9 wx => v9 = .int .u8 c ∧ wx = w' ∧ Hid ((48 ≤ c ∧ c ≤ 57) ∧ (if 10 * n + (c - 48) ≤ most then numS l least most (l.length - (p + m + 1)) (m + 1) (10 * n + (c - 48)) (p + m + 1) else .error 131) = r))
      case first =>
        by_cases h13 : c = 13
        · rcases Nat.eq_zero_or_pos m with rfl | hm0
          · subst h13
            have HE : Hid (Except.error (131 : Int) = r) := Lib.hid (by
              have S := HD.out
              rw [if_neg (by omega), if_pos (by omega)] at S
              exact S)
            clear HD hn
            go_wp2_with fail
            refine (must_no _ _).mono ?_
            rintro e w' ⟨rfl, rfl⟩
            go_wp2_with fail
            exact ⟨rfl, NumE.err HE.out.symm ⟨rfl, HO2.out⟩⟩
          · have HE : Hid ((skipS l [10] (p + m + 1)).map (fun q => (n, q)) = r) := Lib.hid (by
              have S := HD.out
              rw [if_pos ⟨h13, hm0⟩] at S
              exact S)
            clear HD hn
            subst h13
            have e2 : decide ((0 : Int) < (m : Int)) = true := by simp; omega
            go_wp2_with fail
            refine (skip_any ⟨#[10]⟩ _ _ _ _ _ _ _ _ HI2.out (by decide)).mono ?_
            intro e w' hs
            obtain ⟨sr, hsr⟩ : ∃ sr, skipS l [10] (p + m + 1) = sr := ⟨_, rfl⟩
            have S := HE.out
            have hs' : SkipE _ g q cap l t i (skipS l [10] (p + m + 1)) e w' := hs
            rw [hsr] at S hs'
            clear hs HE hsr
            cases sr with
            | error x =>
              obtain ⟨rfl, o2⟩ := hs'
              go_wp2_with fail
              exact ⟨rfl, NumE.err S.symm ⟨rfl, HO2.out.trans o2⟩⟩
            | ok x =>
              obtain ⟨rfl, i2, o2⟩ := hs'
              have HS := Lib.hid S
              have HI3 := Lib.hid i2
              have HO3 := Lib.hid (HO2.out.trans o2)
              clear S i2 o2
              go_wp2_with fail
              go_ret
              exact NumE.ok HS.out.symm ⟨rfl, HI3.out, HO3.out⟩
        · have e13 : ((c : Int) == 13) = false := by simp; omega
          by_cases hlo : c < 48
          · have e3 : decide ((c : Int) < 48) = true := by simp; omega
            have HE : Hid (Except.error (131 : Int) = r) := Lib.hid (by
              have S := HD.out
              rw [if_neg (by omega), if_pos (by omega)] at S
              exact S)
            clear HD hn
            go_wp2_with fail
            refine (must_no _ _).mono ?_
            rintro e w' ⟨rfl, rfl⟩
            go_wp2_with fail
            exact ⟨rfl, NumE.err HE.out.symm ⟨rfl, HO2.out⟩⟩
          · have e3 : decide ((c : Int) < 48) = false := by simp; omega
            by_cases hhi : 57 < c
            · have e4 : decide ((57 : Int) < (c : Int)) = true := by simp; omega
              have HE : Hid (Except.error (131 : Int) = r) := Lib.hid (by
                have S := HD.out
                rw [if_neg (by omega), if_pos (by omega)] at S
                exact S)
              clear HD hn
              go_wp2_with fail
              refine (must_no _ _).mono ?_
              rintro e w' ⟨rfl, rfl⟩
              go_wp2_with fail
              exact ⟨rfl, NumE.err HE.out.symm ⟨rfl, HO2.out⟩⟩
            · have e4 : decide ((57 : Int) < (c : Int)) = false := by simp; omega
              rcases Nat.lt_trichotomy m 1 with hm0 | rfl | hm2
              · obtain rfl : m = 0 := by omega
                have d1 : IntKind.u8.wrap ((c : Int) - 48) = (c : Int) - 48 := IntWalk.u8_in _ (by omega)
                have d2 : IntKind.u64.wrap ((c : Int) - 48) = (c : Int) - 48 := IntWalk.u64_in _ (by omega)
                by_cases hle : c - 48 < least
                · have e5 : decide ((c : Int) - 48 < (least : Int)) = true := by simp; omega
                  have HE : Hid (Except.error (131 : Int) = r) := Lib.hid (by
                    have S := HD.out
                    rw [if_neg (by omega), if_pos (by omega)] at S
                    exact S)
                  clear HD hn
                  go_wp2_with fail
                  refine (must_no _ _).mono ?_
                  rintro e w' ⟨rfl, rfl⟩
                  go_wp2_with fail
                  exact ⟨rfl, NumE.err HE.out.symm ⟨rfl, HO2.out⟩⟩
                · have e5 : decide ((c : Int) - 48 < (least : Int)) = false := by simp; omega
                  have HF : Hid ((48 ≤ c ∧ c ≤ 57) ∧ (if 10 * n + (c - 48) ≤ most then numS l least most (l.length - (p + 0 + 1)) (0 + 1) (10 * n + (c - 48)) (p + 0 + 1) else .error 131) = r) := Lib.hid ⟨by omega, by
                    have S := HD.out
                    rw [if_neg (by omega), if_neg (by omega)] at S
                    exact S⟩
                  clear HD hn
                  go_wp2_with fail
                  go_meet
                  exact ⟨rfl, rfl, HF⟩
              · rcases Nat.eq_zero_or_pos n with rfl | hn0
                · skip
                  have HE : Hid (Except.error (131 : Int) = r) := Lib.hid (by
                    have S := HD.out
                    rw [if_neg (by omega), if_pos (by omega)] at S
                    exact S)
                  clear HD hn
                  go_wp2_with fail
                  refine (must_no _ _).mono ?_
                  rintro e w' ⟨rfl, rfl⟩
                  go_wp2_with fail
                  exact ⟨rfl, NumE.err HE.out.symm ⟨rfl, HO2.out⟩⟩
                · have e6 : ((n : Int) == 0) = false := by simp; omega
                  have HF : Hid ((48 ≤ c ∧ c ≤ 57) ∧ (if 10 * n + (c - 48) ≤ most then numS l least most (l.length - (p + 1 + 1)) (1 + 1) (10 * n + (c - 48)) (p + 1 + 1) else .error 131) = r) := Lib.hid ⟨by omega, by
                    have S := HD.out
                    rw [if_neg (by omega), if_neg (by omega)] at S
                    exact S⟩
                  clear HD hn
                  go_wp2_with fail
                  go_meet
                  exact ⟨rfl, rfl, HF⟩
              · have e7 : ((m : Int) == 1) = false := by simp; omega
                have e8 : ((m : Int) == 0) = false := by simp; omega
                have e9 : decide ((0 : Int) < (m : Int)) = true := by simp; omega
                have HF : Hid ((48 ≤ c ∧ c ≤ 57) ∧ (if 10 * n + (c - 48) ≤ most then numS l least most (l.length - (p + m + 1)) (m + 1) (10 * n + (c - 48)) (p + m + 1) else .error 131) = r) := Lib.hid ⟨by omega, by
                  have S := HD.out
                  rw [if_neg (by omega), if_neg (by omega)] at S
                  exact S⟩
                clear HD hn
                go_wp2_with fail
                go_meet
                exact ⟨rfl, rfl, HF⟩
      case rest =>
        obtain ⟨rfl, rfl, HF⟩ := hcut
        clear HD
        have hc := HF.out.1
        have d1 : IntKind.u8.wrap ((c : Int) - 48) = (c : Int) - 48 := IntWalk.u8_in _ (by omega)
        have d2 : IntKind.u64.wrap ((c : Int) - 48) = (c : Int) - 48 := IntWalk.u64_in _ (by omega)
        by_cases hq : n ≤ most / 10
        · have d3 : IntKind.u64.wrap (10 * (n : Int)) = 10 * (n : Int) := IntWalk.u64_in _ (by omega)
          have d5 : IntKind.u64.wrap ((most : Int) - 10 * (n : Int)) = (most : Int) - 10 * (n : Int) := IntWalk.u64_in _ (by omega)
          have d6 : decide ((n : Int) ≤ (most : Int) / 10) = true := by simp; omega
          by_cases hr : 10 * n + (c - 48) ≤ most
          · have d7 : decide ((c : Int) - 48 ≤ (most : Int) - 10 * (n : Int)) = true := by simp; omega
            have d8 : IntKind.u64.wrap (10 * (n : Int) + ((c : Int) - 48)) = 10 * (n : Int) + ((c : Int) - 48) := IntWalk.u64_in _ (by omega)
            have HE : Hid (numS l least most (l.length - (p + m + 1)) (m + 1) (10 * n + (c - 48)) (p + m + 1) = r) := Lib.hid (by
              have S := HF.out.2
              rw [if_pos hr] at S
              exact S)
            have hN : ((10 * n + (c - 48) : Nat) : Int) = 10 * (n : Int) + ((c : Int) - 48) := by omega
            have HN := Lib.hid hN
            have HQ := Lib.hid hr
            clear HF hr hq hN hc hn
            go_wp2_with fail
            refine (must_yes _ _).mono ?_
            rintro e w' ⟨rfl, rfl⟩
            go_wp2_with fail
            go_roundw
            case rel => exact ⟨10 * n + (c - 48), m + 1, by rw [HN.out], by go_num, HQ.out, Lib.hid (.inl (by omega)), HI2, HO2, HE⟩
            case measure => simp [intOf]; omega
          · have d7 : decide ((c : Int) - 48 ≤ (most : Int) - 10 * (n : Int)) = false := by simp; omega
            have HE : Hid (Except.error (131 : Int) = r) := Lib.hid (by
              have S := HF.out.2
              rw [if_neg hr] at S
              exact S)
            clear HF hr hq hc hn
            go_wp2_with fail
            refine (must_no _ _).mono ?_
            rintro e w' ⟨rfl, rfl⟩
            go_wp2_with fail
            exact ⟨rfl, NumE.err HE.out.symm ⟨rfl, HO2.out⟩⟩
        · have d6 : decide ((n : Int) ≤ (most : Int) / 10) = false := by simp; omega
          have HE : Hid (Except.error (131 : Int) = r) := Lib.hid (by
            have S := HF.out.2
            rw [if_neg (by omega)] at S
            exact S)
          clear HF hq hc hn
          go_wp2_with fail
          refine (must_no _ _).mono ?_
          rintro e w' ⟨rfl, rfl⟩
          go_wp2_with fail
          exact ⟨rfl, NumE.err HE.out.symm ⟨rfl, HO2.out⟩⟩
    · have HE : Hid (Except.error (130 : Int) = r) := Lib.hid (by
        have S := HS.out
        rw [num_end hp] at S
        exact S)
      clear HS
      have c1 := one_end _ _ _ _ _ _ _ _ HI.out (show ¬ ((p + m : Nat) : Int) < (l.length : Int) by omega)
      have HC := Lib.hid c1
      clear c1 hp
      go_wp2_with fail
      refine HC.out.mono ?_
      rintro e w' ⟨rfl, e1⟩
      go_wp2_with fail
      exact ⟨rfl, NumE.err HE.out.symm ⟨rfl, HO.out.ext e1⟩⟩
end Go.Proofs.YtopdgmchkoaeeaaDoor
