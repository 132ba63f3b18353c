/- The document's plain: a line's text. -/
import Derived.Test.YtopdgmchkoaeeaaDoorReD
import Derived.Test.YtopdgmchkoaeeaaDoorRsI
import Derived.Deep.LoopGhost
namespace Go.Proofs.YtopdgmchkoaeeaaDoor
open Go.RowKit
set_option linter.unusedVariables false
set_option linter.unusedSimpArgs false

/-- What plain leaves. -/
def PlaE (w : World) (g : Nat) (s : ByteArray) (t i : Int) (r : Except Int (ByteArray × Nat × Nat)) (e : Ending) (w' : World) : Prop :=
  Only g w w' ∧ ∃ x : ByteArray, e = .returned (.string x) ∧ (match r with
    | .ok y => x = y.1 ∧ RBlk w' g s (y.2.1 : Int) 0 (y.2.2 : Int) i
    | .error c => RefAt w' g s t i (.error c))
set_option maxRecDepth 100000 in
set_option maxHeartbeats 4000000 in
theorem rplain_any (w : World) (g : Nat) (s : ByteArray) (p t : Nat) (i : Int) (h : RBlk w g s p 0 t i) (hp : p ≤ s.size) (hs : s.size ≤ 9223372036854775000) (ht : t ≤ 1048576) :
    Calls Tryd.prog 70 #[.pointer (some ⟨g, 0, none⟩)] w (PlaE w g s t i (lineS' s.data.toList t p)) := by
  have HCUT := Lib.hid (fun m => sub_cut s p m)
  obtain ⟨l, hll⟩ : ∃ l, s.data.toList = l := ⟨_, rfl⟩
  have hsz : l.length = s.size := by rw [← hll]; rfl
  have HN : Hid (∀ (w : World) (p : Nat) (t : Int) (h : RBlk w g s p 0 t i) (hp : p < l.length), Calls Tryd.prog 66 #[.pointer (some ⟨g, 0, none⟩)] w fun e w' => e = .returned (.int .u8 (l[p].toNat : Int)) ∧ RBlk w' g s ((p + 1 : Nat) : Int) 0 t i ∧ Only g w w') := Lib.hid (by
    subst hll; exact fun w p t h hp => next_ok w g s p t i h hp (by omega))
  have HX : Hid (∀ (w : World) (p : Nat) (t : Int) (h : RBlk w g s p 0 t i) (hp : ¬ p < l.length), Calls Tryd.prog 66 #[.pointer (some ⟨g, 0, none⟩)] w fun e w' => e = .returned (.int .u8 0) ∧ RBlk w' g s p 130 t i ∧ Only g w w') := Lib.hid (by
    subst hll; exact fun w p t h hp => next_end w g s p t i h hp)
  have HW : Hid (∀ (w : World) (p : Nat) (t : Int) (h : RBlk w g s p 0 t i), Calls Tryd.prog 46 #[.pointer (some ⟨g, 0, none⟩), .int .u8 10] w fun e w' => e = .returned (.tuple #[]) ∧ RefAt w' g s t i (skipS l [10] p) ∧ Only g w w') := Lib.hid (by
    subst hll; exact fun w p t h => want_any 10 w g s t i (.ok p) h (by decide) (by omega))
  rw [hll]
  rw [hll] at HCUT
  have HSZ := Lib.hid hsz
  have H := Lib.hid h
  have c1 := h.cell 1
  simp only [List.getElem?_toArray, List.getElem?_cons_zero, List.getElem?_cons_succ] at c1
  clear h hll hsz
  go_enter Tryd.func70, Tryd.ntmps70
  go_wp2_with fail
  clear c1
  go_loopg [4] (l.length - p) (fun gk s4 wr => Hid (Only g w wr) ∧ Hid ((∃ m : Nat, gk + m = l.length - p ∧ m ≤ t ∧ RBlk wr g s ((p + m : Nat) : Int) 0 ((t - m : Nat) : Int) i ∧ plainS l (l.length - (p + m)) (t - m) (p + m) = plainS l (l.length - p) t p) ∨ (∃ c, RefAt wr g s t i (.error c) ∧ plainS l (l.length - p) t p = .error c)))
  case atStart => exact ⟨Lib.hid (Only.refl _ _), Lib.hid (.inl ⟨0, rfl, by omega, by simpa using H.out, rfl⟩)⟩
  case round =>
    obtain ⟨HO, HQ⟩ := hrel
    clear H
    rcases HQ.out with ⟨m, hgm, hmt, hb, hS⟩ | ⟨c, hc, hS⟩
    · have HG := Lib.hid hgm
      have HS := Lib.hid hS
      have HB := Lib.hid hb
      have c2 := hb.cell 2
      simp only [List.getElem?_toArray, List.getElem?_cons_zero, List.getElem?_cons_succ] at c2
      by_cases hlt : p + m < l.length
      · have c1 := HN.out _ _ _ hb hlt
        have S := hS
        rw [plain_step hlt] at S
        have hbd := UInt8.toNat_lt (l[p + m])
        generalize l[p + m].toNat = c at S c1 hbd
        have HD := Lib.hid S
        have HC := Lib.hid c1
        clear c1 S HS HQ hS hb hgm
        go_wp2_with fail
        refine HC.out.mono ?_
        rintro e w' ⟨rfl, h1, o1⟩
        have c0 := h1.cell 0
        have c1 := h1.cell 1
        have c2 := h1.cell 2
        have c3 := h1.cell 3
        have z3 := h1.frozen 3
        simp only [List.getElem?_toArray, List.getElem?_cons_zero, List.getElem?_cons_succ] at c0 c1 c2 c3
        have HI2 := Lib.hid h1
        have HO2 := Lib.hid (HO.out.trans o1)
        clear h1 o1 HC HO
        obtain ⟨P, hP⟩ : ∃ P, p + m = P := ⟨_, rfl⟩
        obtain ⟨T, hT⟩ : ∃ T, t - m = T := ⟨_, rfl⟩
        rw [hP] at c1 HI2 HD hlt
        rw [hT] at c3 HI2 HD
        have HPM := Lib.hid hP
        have HTM := Lib.hid hT
        have hPs : P ≤ 9223372036854775000 := by have := HSZ.out; omega
        have hPp : p ≤ P := by omega
        have hTs : T ≤ 1048576 := by omega
        have hPz : P ≤ s.size := by have := HSZ.out; omega
        clear hP hT
        rw [Int.natCast_add] at c1
        have z3 := HI2.out.frozen 3
        by_cases h13 : c = 13
        · subst h13
          have HE : Hid (plainS l (l.length - p) t p = .ok (P, T)) := Lib.hid (by
            have S := HD.out
            rw [if_pos rfl] at S
            exact S.symm)
          have HCT := Lib.hid (show s.extract p P = cutS l p (P - p) by have := HCUT.out (P - p); rwa [show p + (P - p) = P by omega] at this)
          have d1 : IntKind.i64.wrap ((P : Int) + ((1 : Nat) : Int) - 1) = (P : Int) := by rw [IntWalk.i64_in _ (by omega)]; omega
          have k0 : (0 : Int) ≤ (p : Int) := by omega
          have k1 : (p : Int) ≤ (P : Int) := by omega
          have k2 : (P : Int) ≤ (s.size : Int) := by omega
          clear HD HCUT
          go_wp2_with fail
          go_quiet (fail)
          have E1 := Lib.hid ((Ext.refl w').drewN nq)
          generalize w'.drewN nq = w1 at E1 ⊢
          go_wp2_with fail
          refine (HW.out _ _ _ (HI2.out.ext E1.out)).mono ?_
          rintro e w2 ⟨rfl, b2, o2⟩
          have HB2 := Lib.hid b2
          have HO3 := Lib.hid (HO2.out.trans ((Only.of_ext E1.out).trans o2))
          clear b2 o2
          go_wp2_with fail
          go_ret
          refine ⟨HO3.out, _, rfl, ?_⟩
          simp only [lineS', HE.out]
          have B := HB2.out
          cases hk : skipS l [10] (P + 1) with
          | error c => rw [hk] at B; exact B
          | ok r => rw [hk] at B; exact ⟨HCT.out, B⟩
        · have e13 : ((c : Int) == 13) = false := beq_eq_false_iff_ne.2 (by omega)
          have d2 : IntKind.i64.wrap ((T : Int) - 1) = (T : Int) - 1 := IntWalk.i64_in _ (by omega)
          by_cases h10 : c = 10
          · have HE : Hid (plainS l (l.length - p) t p = .error 131) := Lib.hid (by
              have S := HD.out
              rw [if_neg h13, if_pos (.inl h10)] at S
              exact S.symm)
            have e10 : ((c : Int) == 10) = true := beq_iff_eq.2 (by omega)
            clear HD HCUT h10
            go_wp2_with fail
            refine (fail_ok _ _ _ _ _ _ _ (rblk_texts HI2.out ((T : Int) - 1))).mono ?_
            rintro e w2 ⟨rfl, b2, o2⟩
            have HB2 := Lib.hid b2
            have HO3 := Lib.hid ((HO2.out.set 3 (.int .i64 ((T : Int) - 1))).trans o2)
            clear b2 o2
            go_wp2_with fail
            go_roundg (gk - 1)
            case rel => exact ⟨HO3, Lib.hid (.inr ⟨131, ⟨by decide, _, _, _, HB2.out⟩, HE.out⟩)⟩
            case measure => have := HG.out; have := HPM.out; omega
          · have e10 : ((c : Int) == 10) = false := beq_eq_false_iff_ne.2 (by omega)
            by_cases hT0 : T < 1
            · have HE : Hid (plainS l (l.length - p) t p = .error 131) := Lib.hid (by
                have S := HD.out
                rw [if_neg h13, if_pos (.inr (by omega))] at S
                exact S.symm)
              have d3 : decide ((T : Int) - 1 < 0) = true := decide_eq_true (by omega)
              have d3n : decide (T < 1) = true := decide_eq_true hT0
              clear HD HCUT h10
              go_wp2_with fail
              refine (fail_ok _ _ _ _ _ _ _ (rblk_texts HI2.out ((T : Int) - 1))).mono ?_
              rintro e w2 ⟨rfl, b2, o2⟩
              have HB2 := Lib.hid b2
              have HO3 := Lib.hid ((HO2.out.set 3 (.int .i64 ((T : Int) - 1))).trans o2)
              clear b2 o2
              go_wp2_with fail
              go_roundg (gk - 1)
              case rel => exact ⟨HO3, Lib.hid (.inr ⟨131, ⟨by decide, _, _, _, HB2.out⟩, HE.out⟩)⟩
              case measure => have := HG.out; have := HPM.out; omega
            · have HE : Hid (plainS l (l.length - (P + 1)) (T - 1) (P + 1) = plainS l (l.length - p) t p) := Lib.hid (by
                have S := HD.out
                rw [if_neg h13, if_neg (by omega)] at S
                exact S)
              have d3 : decide ((T : Int) - 1 < 0) = false := decide_eq_false (by omega)
              have d3n : decide (T < 1) = false := decide_eq_false hT0
              clear HD h10
              go_wp2_with fail
              go_roundg (gk - 1)
              case rel =>
                refine ⟨Lib.hid (HO2.out.set 3 (.int .i64 ((T : Int) - 1))), Lib.hid (.inl ⟨m + 1, by have := HG.out; have := HPM.out; omega, by have := HTM.out; omega, ?_, ?_⟩)⟩
                · rw [show p + (m + 1) = P + 1 by have := HPM.out; omega, show ((t - (m + 1) : Nat) : Int) = (T : Int) - 1 by have := HTM.out; omega]
                  exact rblk_texts HI2.out _
                · rw [show p + (m + 1) = P + 1 by have := HPM.out; omega, show t - (m + 1) = T - 1 by have := HTM.out; omega]
                  exact HE.out
              case measure => have := HG.out; have := HPM.out; omega
      · have HE : Hid (plainS l (l.length - p) t p = .error 130) := Lib.hid (by rw [← hS]; exact plain_end hlt)
        have HC := Lib.hid (HX.out _ _ _ hb hlt)
        clear HS HQ hS hb hgm
        go_wp2_with fail
        refine HC.out.mono ?_
        rintro e w' ⟨rfl, b1, o1⟩
        have c2 := b1.cell 2
        simp only [List.getElem?_toArray, List.getElem?_cons_zero, List.getElem?_cons_succ] at c2
        have HB1 := Lib.hid b1
        have HO1 := Lib.hid (HO.out.trans o1)
        clear b1 o1 HC
        go_wp2_with fail
        go_ret
        refine ⟨HO1.out, _, rfl, ?_⟩
        simp only [lineS', HE.out]
        exact ⟨by decide, _, _, _, HB1.out⟩
    · have HR := Lib.hid hc
      have HE := Lib.hid hS
      obtain ⟨hc0, p', t', i', hb⟩ := hc
      have c2 := hb.cell 2
      have e0 : (c == 0) = false := by simpa using hc0
      simp only [List.getElem?_toArray, List.getElem?_cons_zero, List.getElem?_cons_succ] at c2
      clear hb hc0 hS HQ
      go_wp2_with fail
      go_ret
      refine ⟨HO.out, _, rfl, ?_⟩
      simp only [lineS', HE.out]
      exact HR.out
end Go.Proofs.YtopdgmchkoaeeaaDoor
