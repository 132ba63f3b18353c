/- Words: what is meant behind a backslash, in the program. -/
import Derived.Test.YthknpnhiijbgfaaDoorWdA
import Derived.IntWalk
namespace Go.Proofs.YthknpnhiijbgfaaDoor
open Go.RowKit
set_option linter.unusedVariables false
set_option linter.unusedSimpArgs false

def escV : Option (UInt8 × Nat) → Value
  | none => .tuple #[.int .u8 0, .int .i64 0]
  | some (b, n) => .tuple #[.int .u8 (b.toNat : Int), .int .i64 (n : Int)]
theorem esc_short {l : List UInt8} {c : UInt8} {m : List UInt8} (h : l = c :: m) (h1 : ¬ c.toNat = 110) (h2 : ¬ c.toNat = 116) (h3 : ¬ c.toNat = 114) (h4 : ¬ (c.toNat = 92 ∨ c.toNat = 39 ∨ c.toNat = 34)) (hm : m.length < 2) : escP l = none := by
  subst h
  unfold escP
  dsimp only
  rw [if_neg h1, if_neg h2, if_neg h3, if_neg h4]
  match m, hm with
  | [], _ => rfl
  | [_], _ => rfl
theorem esc_three {l : List UInt8} {c d e : UInt8} {m : List UInt8} (h : l = c :: d :: e :: m) (h1 : ¬ c.toNat = 110) (h2 : ¬ c.toNat = 116) (h3 : ¬ c.toNat = 114) (h4 : ¬ (c.toNat = 92 ∨ c.toNat = 39 ∨ c.toNat = 34)) :
    escP l = if digB c = true ∧ digB d = true ∧ digB e = true then
          (if 100 * (c.toNat - 48) + 10 * (d.toNat - 48) + (e.toNat - 48) ≤ 255 then some (UInt8.ofNat (100 * (c.toNat - 48) + 10 * (d.toNat - 48) + (e.toNat - 48)), 3) else none) else none := by
  subst h
  unfold escP
  dsimp only
  rw [if_neg h1, if_neg h2, if_neg h3, if_neg h4]
theorem head_cons {l : List UInt8} (h : 0 < l.length) : l = l[0] :: l.drop 1 := by
  match l, h with
  | a :: l, _ => rfl
theorem take3 {l : List UInt8} (h : 3 ≤ l.length) : l = l[0] :: l[1] :: l[2] :: l.drop 3 := by
  match l, h with
  | a :: b :: c :: l, _ => rfl
set_option maxRecDepth 100000 in
set_option maxHeartbeats 1000000 in
theorem escaped_any (w : World) (s : ByteArray) : Calls Tryd.prog 74 #[.string s] w fun e w' => e = .returned (escV (escP s.data.toList)) ∧ Ext w w' := by
  obtain ⟨n, hn⟩ : ∃ n, s.size = n := ⟨_, rfl⟩
  obtain ⟨l, hL⟩ : ∃ l, s.data.toList = l := ⟨_, rfl⟩
  have hl : l.length = n := by rw [← hL]; exact hn
  obtain ⟨r, hr⟩ : ∃ r, escP l = r := ⟨_, rfl⟩
  rw [hL, hr]
  have HR := Lib.hid hr
  have HL := Lib.hid hL
  have HLL := Lib.hid hl
  clear hr hL hl
  by_cases h0 : n = 0
  · subst h0
    have e0 : s.toList.isEmpty = true := by rw [str_empty, hn]; rfl
    have HN := Lib.hid hn
    have hr : r = none := by rw [← HR.out, List.length_eq_zero_iff.1 HLL.out]; rfl
    subst hr
    clear hn
    go_enter Tryd.func74, Tryd.ntmps74
    go_wp2_with fail
    go_ret2
    exact ⟨rfl, Ext.refl _⟩
  have e0 : s.toList.isEmpty = false := by rw [str_empty, hn]; exact decide_eq_false h0
  have hs0 : 0 < s.size := by omega
  have H0 : Hid (0 < l.length) := Lib.hid (by rw [HLL.out]; omega)
  obtain ⟨c, hc⟩ : ∃ c, s[0]'hs0 = c := ⟨_, rfl⟩
  have hcl : l[0]'H0.out = c := by rw [← hc, ← str_get s 0 hs0]; exact get_of HL.out.symm _
  have HCL := Lib.hid hcl
  have HCC : Hid (l = c :: l.drop 1) := Lib.hid (by have h := head_cons H0.out; rw [hcl] at h; exact h)
  clear hcl
  by_cases g0 : c.toNat = 110
  · have f0 : ((c.toNat : Int) == 110) = true := by rw [g0]; rfl
    have hr : r = some (10, 1) := by
      rw [← HR.out, HCC.out]; unfold escP; dsimp only; rw [if_pos (by omega)]
    have HN := Lib.hid hn
    have G := Lib.hid g0
    subst hr
    clear hn g0
    go_enter Tryd.func74, Tryd.ntmps74
    go_wp2_with fail
    go_ret2
    exact ⟨rfl, Ext.refl _⟩
  have f0 : ((c.toNat : Int) == 110) = false := by rw [beq_eq_false_iff_ne]; omega
  by_cases g1 : c.toNat = 116
  · have f1 : ((c.toNat : Int) == 116) = true := by rw [g1]; rfl
    have hr : r = some (9, 1) := by
      rw [← HR.out, HCC.out]; unfold escP; dsimp only; rw [if_neg (by omega), if_pos (by omega)]
    have HN := Lib.hid hn
    have G := Lib.hid g1
    subst hr
    clear hn g1
    go_enter Tryd.func74, Tryd.ntmps74
    go_wp2_with fail
    go_ret2
    exact ⟨rfl, Ext.refl _⟩
  have f1 : ((c.toNat : Int) == 116) = false := by rw [beq_eq_false_iff_ne]; omega
  by_cases g2 : c.toNat = 114
  · have f2 : ((c.toNat : Int) == 114) = true := by rw [g2]; rfl
    have hr : r = some (13, 1) := by
      rw [← HR.out, HCC.out]; unfold escP; dsimp only; rw [if_neg (by omega), if_neg (by omega), if_pos (by omega)]
    have HN := Lib.hid hn
    have G := Lib.hid g2
    subst hr
    clear hn g2
    go_enter Tryd.func74, Tryd.ntmps74
    go_wp2_with fail
    go_ret2
    exact ⟨rfl, Ext.refl _⟩
  have f2 : ((c.toNat : Int) == 114) = false := by rw [beq_eq_false_iff_ne]; omega
  by_cases g3 : c.toNat = 92
  · have f3 : ((c.toNat : Int) == 92) = true := by rw [g3]; rfl
    have hr : r = some (c, 1) := by
      rw [← HR.out, HCC.out]; unfold escP; dsimp only; rw [if_neg (by omega), if_neg (by omega), if_neg (by omega), if_pos (by omega)]
    have HN := Lib.hid hn
    have G := Lib.hid g3
    subst hr
    clear hn g3
    go_enter Tryd.func74, Tryd.ntmps74
    go_wp2_with fail
    go_ret2
    exact ⟨rfl, Ext.refl _⟩
  have f3 : ((c.toNat : Int) == 92) = false := by rw [beq_eq_false_iff_ne]; omega
  by_cases g4 : c.toNat = 39
  · have f4 : ((c.toNat : Int) == 39) = true := by rw [g4]; rfl
    have hr : r = some (c, 1) := by
      rw [← HR.out, HCC.out]; unfold escP; dsimp only; rw [if_neg (by omega), if_neg (by omega), if_neg (by omega), if_pos (by omega)]
    have HN := Lib.hid hn
    have G := Lib.hid g4
    subst hr
    clear hn g4
    go_enter Tryd.func74, Tryd.ntmps74
    go_wp2_with fail
    go_ret2
    exact ⟨rfl, Ext.refl _⟩
  have f4 : ((c.toNat : Int) == 39) = false := by rw [beq_eq_false_iff_ne]; omega
  by_cases g5 : c.toNat = 34
  · have f5 : ((c.toNat : Int) == 34) = true := by rw [g5]; rfl
    have hr : r = some (c, 1) := by
      rw [← HR.out, HCC.out]; unfold escP; dsimp only; rw [if_neg (by omega), if_neg (by omega), if_neg (by omega), if_pos (by omega)]
    have HN := Lib.hid hn
    have G := Lib.hid g5
    subst hr
    clear hn g5
    go_enter Tryd.func74, Tryd.ntmps74
    go_wp2_with fail
    go_ret2
    exact ⟨rfl, Ext.refl _⟩
  have f5 : ((c.toNat : Int) == 34) = false := by rw [beq_eq_false_iff_ne]; omega
  have hnb : Hid (¬ (c.toNat = 92 ∨ c.toNat = 39 ∨ c.toNat = 34)) := Lib.hid (by omega)
  have E0 := Lib.hid g0
  have E1 := Lib.hid g1
  have E2 := Lib.hid g2
  clear g0 g1 g2 g3 g4 g5
  by_cases h3 : n < 3
  · have d1 : decide ((s.size : Int) < 3) = true := decide_eq_true (by omega)
    have d1n : decide (s.size < 3) = true := decide_eq_true (by omega)
    have hr : r = none := by rw [← HR.out]; exact esc_short HCC.out E0.out E1.out E2.out hnb.out (by have := HLL.out; simp; omega)
    have HN := Lib.hid hn
    subst hr
    clear hn
    go_enter Tryd.func74, Tryd.ntmps74
    go_wp2_with fail
    go_ret2
    exact ⟨rfl, Ext.refl _⟩
  have d1 : decide ((s.size : Int) < 3) = false := decide_eq_false (by omega)
  have d1n : decide (s.size < 3) = false := decide_eq_false (by omega)
  have hs1 : 1 < s.size := by omega
  have hs2 : 2 < s.size := by omega
  have H3 : Hid (3 ≤ l.length) := Lib.hid (by rw [HLL.out]; omega)
  obtain ⟨c1, hc1⟩ : ∃ c, s[1]'hs1 = c := ⟨_, rfl⟩
  obtain ⟨c2, hc2⟩ : ∃ c, s[2]'hs2 = c := ⟨_, rfl⟩
  have HT : Hid (l = c :: c1 :: c2 :: l.drop 3) := Lib.hid (by
    have h := take3 H3.out
    have i1 : l[1]'(by have := H3.out; omega) = c1 := by rw [← hc1, ← str_get s 1 hs1]; exact get_of HL.out.symm _
    have i2 : l[2]'(by have := H3.out; omega) = c2 := by rw [← hc2, ← str_get s 2 hs2]; exact get_of HL.out.symm _
    rw [HCL.out, i1, i2] at h; exact h)
  have HE := Lib.hid (esc_three HT.out E0.out E1.out E2.out hnb.out)
  have HN := Lib.hid hn
  clear hn
  obtain ⟨b0, hb0⟩ : ∃ b, digB c = b := ⟨_, rfl⟩
  obtain ⟨b1, hb1⟩ : ∃ b, digB c1 = b := ⟨_, rfl⟩
  obtain ⟨b2, hb2⟩ : ∃ b, digB c2 = b := ⟨_, rfl⟩
  have B0 := Lib.hid hb0
  have B1 := Lib.hid hb1
  have B2 := Lib.hid hb2
  clear hb0 hb1 hb2
  by_cases hall : b0 = true ∧ b1 = true ∧ b2 = true
  · obtain ⟨rfl, rfl, rfl⟩ := hall
    have x0 : 48 ≤ c.toNat ∧ c.toNat ≤ 57 := by simpa [digB] using B0.out
    have x1 : 48 ≤ c1.toNat ∧ c1.toNat ≤ 57 := by simpa [digB] using B1.out
    have x2 : 48 ≤ c2.toNat ∧ c2.toNat ≤ 57 := by simpa [digB] using B2.out
    obtain ⟨a0, ha0⟩ : ∃ a : Nat, c.toNat = a + 48 := ⟨c.toNat - 48, by omega⟩
    obtain ⟨a1, ha1⟩ : ∃ a : Nat, c1.toNat = a + 48 := ⟨c1.toNat - 48, by omega⟩
    obtain ⟨a2, ha2⟩ : ∃ a : Nat, c2.toNat = a + 48 := ⟨c2.toNat - 48, by omega⟩
    have HV : Hid (escP l = if 100 * a0 + 10 * a1 + a2 ≤ 255 then some (UInt8.ofNat (100 * a0 + 10 * a1 + a2), 3) else none) := Lib.hid (by
      rw [HE.out, B0.out, B1.out, B2.out, if_pos ⟨rfl, rfl, rfl⟩, ha0, ha1, ha2]
      simp only [Nat.add_sub_cancel])
    have y0 : (c.toNat : Int) = (a0 : Int) + 48 := by omega
    have y1 : (c1.toNat : Int) = (a1 : Int) + 48 := by omega
    have y2 : (c2.toNat : Int) = (a2 : Int) + 48 := by omega
    have z0 : a0 ≤ 9 := by omega
    have z1 : a1 ≤ 9 := by omega
    have z2 : a2 ≤ 9 := by omega
    have Y0 := Lib.hid y0
    have Y1 := Lib.hid y1
    have Y2 := Lib.hid y2
    clear ha0 ha1 ha2 x0 x1 x2 y0 y1 y2
    go_enter Tryd.func74, Tryd.ntmps74
    go_wp2_with fail
    refine (digit_any _ c).mono ?_
    rintro e w' ⟨rfl, rfl⟩
    rw [B0.out]
    go_wp2_with fail
    refine (digit_any _ c1).mono ?_
    rintro e w' ⟨rfl, rfl⟩
    rw [B1.out]
    go_wp2_with fail
    refine (digit_any _ c2).mono ?_
    rintro e w' ⟨rfl, rfl⟩
    rw [B2.out]
    go_wp2_with fail
    have y0 := Y0.out
    have y1 := Y1.out
    have y2 := Y2.out
    go_quiet (fail)
    clear y0 y1 y2
    by_cases hv : 100 * a0 + 10 * a1 + a2 ≤ 255
    · have hvi : (a0 : Int) * 100 + (a1 : Int) * 10 + (a2 : Int) ≤ 255 := by omega
      have hv0 : 0 ≤ (a0 : Int) * 100 + (a1 : Int) * 10 + (a2 : Int) := by omega
      have dv : decide (255 < (a0 : Int) * 100 + (a1 : Int) * 10 + (a2 : Int)) = false := decide_eq_false (by omega)
      have HRV : Hid (r = some (UInt8.ofNat (100 * a0 + 10 * a1 + a2), 3)) := Lib.hid (by rw [← HR.out, HV.out, if_pos hv])
      have HU : Hid (((UInt8.ofNat (100 * a0 + 10 * a1 + a2)).toNat : Int) = (a0 : Int) * 100 + (a1 : Int) * 10 + (a2 : Int)) := Lib.hid (by rw [u8n]; omega)
      clear hv
      go_wp2_with fail
      go_ret2
      exact ⟨by rw [HRV.out]; exact ret2_of ⟨int_eq HU.out.symm, rfl⟩, (Ext.refl _).drewN _⟩
    · have dv : decide (255 < (a0 : Int) * 100 + (a1 : Int) * 10 + (a2 : Int)) = true := decide_eq_true (by omega)
      have HRV : Hid (r = none) := Lib.hid (by rw [← HR.out, HV.out, if_neg hv])
      clear hv
      go_wp2_with fail
      go_ret2
      exact ⟨by rw [HRV.out]; rfl, (Ext.refl _).drewN _⟩
  · have hr : r = none := by
      rw [← HR.out, HE.out, if_neg (by rw [B0.out, B1.out, B2.out]; exact hall)]
    subst hr
    cases b0
    · go_enter Tryd.func74, Tryd.ntmps74
      go_wp2_with fail
      refine (digit_any _ c).mono ?_
      rintro e w' ⟨rfl, rfl⟩
      rw [B0.out]
      go_wp2_with fail
      go_ret2
      exact ⟨rfl, Ext.refl _⟩
    cases b1
    · go_enter Tryd.func74, Tryd.ntmps74
      go_wp2_with fail
      refine (digit_any _ c).mono ?_
      rintro e w' ⟨rfl, rfl⟩
      rw [B0.out]
      go_wp2_with fail
      refine (digit_any _ c1).mono ?_
      rintro e w' ⟨rfl, rfl⟩
      rw [B1.out]
      go_wp2_with fail
      go_ret2
      exact ⟨rfl, Ext.refl _⟩
    cases b2
    · go_enter Tryd.func74, Tryd.ntmps74
      go_wp2_with fail
      refine (digit_any _ c).mono ?_
      rintro e w' ⟨rfl, rfl⟩
      rw [B0.out]
      go_wp2_with fail
      refine (digit_any _ c1).mono ?_
      rintro e w' ⟨rfl, rfl⟩
      rw [B1.out]
      go_wp2_with fail
      refine (digit_any _ c2).mono ?_
      rintro e w' ⟨rfl, rfl⟩
      rw [B2.out]
      go_wp2_with fail
      go_ret2
      exact ⟨rfl, Ext.refl _⟩
    · exact absurd ⟨rfl, rfl, rfl⟩ hall
end Go.Proofs.YthknpnhiijbgfaaDoor
