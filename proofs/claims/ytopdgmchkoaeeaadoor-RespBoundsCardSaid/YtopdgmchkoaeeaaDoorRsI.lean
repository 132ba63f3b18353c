/- A line's text; a number with its sign. -/
import Derived.Test.YtopdgmchkoaeeaaDoorRsH
import Derived.Deep.LoopGhost
namespace Go.Proofs.YtopdgmchkoaeeaaDoor
open Go.RowKit
set_option linter.unusedVariables false
set_option linter.unusedSimpArgs false

/-- What plain leaves. -/
def LineE (w : World) (g : Nat) (q : Option Addr) (cap : Nat) (l : List UInt8) (i : Int) (r : Except Int (ByteArray × Nat × Nat)) (e : Ending) (w' : World) : Prop :=
  match r with
  | .ok x => e = .returned (.string x.1) ∧ InAt w' g q cap l x.2.1 x.2.2 i ∧ Only g w w'
  | .error c => Gave c e ∧ Only g w w'
theorem LineE.ok {w : World} {g : Nat} {q : Option Addr} {cap : Nat} {l : List UInt8} {i : Int} {r : Except Int (ByteArray × Nat × Nat)} {e : Ending} {w' : World} {x : ByteArray × Nat × Nat} (hr : r = .ok x) (h : e = .returned (.string x.1) ∧ InAt w' g q cap l x.2.1 x.2.2 i ∧ Only g w w') : LineE w g q cap l i r e w' := by
  subst hr; exact h
theorem LineE.err {w : World} {g : Nat} {q : Option Addr} {cap : Nat} {l : List UInt8} {i : Int} {r : Except Int (ByteArray × Nat × Nat)} {e : Ending} {w' : World} {c : Int} (hr : r = .error c) (h : Gave c e ∧ Only g w w') : LineE w g q cap l i r e w' := by
  subst hr; exact h
theorem plain_end {l : List UInt8} {t p : Nat} (h : ¬ p < l.length) : plainS l (l.length - p) t p = .error 130 := by
  rw [show l.length - p = 0 by omega]; rfl
theorem plain_step {l : List UInt8} {t p : Nat} (h : p < l.length) : plainS l (l.length - p) t p =
      if l[p].toNat = 13 then .ok (p, t) else if l[p].toNat = 10 ∨ t = 0 then .error 131 else plainS l (l.length - (p + 1)) (t - 1) (p + 1) := by
  rw [show l.length - p = (l.length - (p + 1)) + 1 by omega]
  simp only [plainS, dif_pos h]

set_option maxRecDepth 100000 in
set_option maxHeartbeats 4000000 in
theorem plain_any (w : World) (g : Nat) (q : Option Addr) (cap : Nat) (l : List UInt8) (p t : Nat) (i : Int) (h : InAt w g q cap l p t i) (hp : p ≤ l.length) (ht : t ≤ 1048576) :
    Calls Tryd.prog 77 #[.pointer (some ⟨g, 0, none⟩)] w (LineE w g q cap l i (lineS' l t p)) := by
  obtain ⟨r, hr⟩ : ∃ r, lineS' l t p = r := ⟨_, rfl⟩
  rw [hr]
  unfold lineS' at hr
  have HR := Lib.hid hr
  have H := Lib.hid h
  have hl := h.len
  have c1 := h.blk.cell 1
  simp only [List.getElem?_toArray, List.getElem?_cons_zero, List.getElem?_cons_succ] at c1
  clear hr h
  go_enter Tryd.func77, Tryd.ntmps77
  go_wp2_with fail
  go_loopg [4] (l.length - p) (fun gk s4 wr => ∃ m : Nat, gk + m = l.length - p ∧ m ≤ t ∧ Hid (InAt wr g q cap l ((p + m : Nat) : Int) ((t - m : Nat) : Int) i) ∧ Hid (Only g w wr) ∧ Hid (plainS l (l.length - (p + m)) (t - m) (p + m) = plainS l (l.length - p) t p))
  case atStart => exact ⟨0, rfl, Nat.zero_le _, Lib.hid H.out, Lib.hid (Only.refl _ _), Lib.hid rfl⟩
  case round =>
    obtain ⟨m, hm, hmt, HI, HO, HS⟩ := hrel
    clear c1
    by_cases hpm : p + m < l.length
    · obtain ⟨gk', rfl⟩ : ∃ gk', gk = gk' + 1 := ⟨gk - 1, by omega⟩
      have c1 := one_ok _ _ _ _ _ _ _ _ HI.out hpm
      have S := HS.out
      rw [plain_step hpm] at S
      have hb := UInt8.toNat_lt (l[p + m])
      generalize l[p + m].toNat = c at S c1 hb
      have HD := Lib.hid S
      clear S HS
      have HC := Lib.hid c1
      clear c1
      by_cases h13 : c = 13
      · have S := HD.out
        rw [if_pos h13] at S
        have S2 := HR.out
        rw [← S] at S2
        have S3 : ((skipS l [10] (p + m + 1)).map fun r => (cutS l p (p + m - p), r, t - m)) = r := S2
        have HE := Lib.hid S3
        clear S S2 S3 HD HR
        subst h13
        obtain ⟨b, o, hq, hbg, _⟩ := HI.out.bytes (p + m) hpm
        have hcap := H.out.room
        subst hq
        go_wp2_with fail
        refine HC.out.mono ?_
        rintro e w2 ⟨rfl, h1, o1⟩
        have HI2 := Lib.hid h1
        have HO2 := Lib.hid (HO.out.trans o1)
        have c0 := h1.blk.cell 0
        have c1 := h1.blk.cell 1
        simp only [List.getElem?_toArray, List.getElem?_cons_zero, List.getElem?_cons_succ] at c0 c1
        clear h1 o1 HI HO
        have k0 : (0 : Int) ≤ (p : Int) := by omega
        have k1 : (p : Int) ≤ (p : Int) + (m : Int) := by omega
        have k2 : (p : Int) + (m : Int) ≤ (cap : Int) := by omega
        have k3 : ¬ cap = p := by omega
        have hw3 : IntKind.i64.wrap ((p : Int) + (m : Int)) = (p : Int) + (m : Int) := IntWalk.i64_in _ (by omega)
        have hw4 : IntKind.i64.wrap ((p : Int) + (m : Int) + 1 - 1) = (p : Int) + (m : Int) := by rw [IntWalk.i64_in _ (by omega)]; omega
        have hw2 : IntKind.i64.wrap (((p + m + 1 : Nat) : Int) - 1) = (p : Int) + (m : Int) := by rw [IntWalk.i64_in _ (by omega)]; omega
        go_wp2_with fail
        go_still_tail 11, (by kernel_rfl)
        change wpList _ _ _ _ _ w2.drew
        generalize hw3 : w2.drew = w3
        have E3 := Lib.hid (hw3 ▸ (Ext.refl w2).drew : Ext w2 w3)
        have hx : ∀ c, (convert 25 9 (.slice (some ⟨b, o + p, none⟩) (p + m - p) c)).run Tryd.prog w3 = .ok (.string (cutS l p m)) w3 := fun c => by
          rw [show p + m - p = m by omega]
          exact conv_cut w3 g b o cap p m c l _ _ _ (HI2.out.ext E3.out) (by omega) (o + p) (fun _ => rfl)
        clear hw3 c0 c1
        have HI3 := Lib.hid (HI2.out.ext E3.out)
        have HO3 := Lib.hid (HO2.out.ext E3.out)
        clear HI2 HO2
        go_wp2_with fail
        simp only [hx, Result.andThen]
        rw [Oper.upon_value]
        go_wp2_with fail
        refine (skip_any ⟨#[10]⟩ _ _ _ _ _ _ _ _ HI3.out (by decide)).mono ?_
        intro e w' hs
        obtain ⟨sr, hsr⟩ : ∃ sr, skipS l [10] (p + m + 1) = sr := ⟨_, rfl⟩
        have S := HE.out
        have hs' : SkipE _ g _ cap l ((t - m : Nat) : Int) i (skipS l [10] (p + m + 1)) e w' := hs
        rw [hsr] at S hs'
        clear hs HE hsr
        cases sr with
        | error x =>
          obtain ⟨rfl, o2⟩ := hs'
          go_wp2_with fail
          exact ⟨rfl, LineE.err S.symm ⟨rfl, HO3.out.trans o2⟩⟩
        | ok x =>
          obtain ⟨rfl, i2, o2⟩ := hs'
          have S' : Except.ok (cutS l p m, x, t - m) = r := by rw [← S]; simp [Except.map]
          have HS := Lib.hid S'
          have HI4 := Lib.hid i2
          have HO4 := Lib.hid (HO3.out.trans o2)
          clear S S' i2 o2
          go_wp2_with fail
          go_ret
          exact LineE.ok HS.out.symm ⟨rfl, HI4.out, HO4.out⟩
      · have e13 : ((c : Int) == 13) = false := by simp; omega
        go_wp2_with fail
        refine HC.out.mono ?_
        rintro e w2 ⟨rfl, h1, o1⟩
        have HI2 := Lib.hid h1
        have HO2 := Lib.hid (HO.out.trans o1)
        have c2 := h1.blk.cell 2
        simp only [List.getElem?_toArray, List.getElem?_cons_zero, List.getElem?_cons_succ] at c2
        have z2 := h1.blk.frozen 2
        clear h1 o1 HI HO
        have B := HI2.out.blk.set_ 2 (.int .i64 (((t - m : Nat) : Int) - 1))
        have O : Only g w2 (w2.setCell ⟨g, 2, none⟩ (.int .i64 (((t - m : Nat) : Int) - 1))) := (Only.refl g w2).set 2 _
        have hw : IntKind.i64.wrap (((t - m : Nat) : Int) - 1) = ((t - m : Nat) : Int) - 1 := IntWalk.i64_in _ (by omega)
        have hlast : (w2.setCell ⟨g, 2, none⟩ (.int .i64 (((t - m : Nat) : Int) - 1))).cell? ⟨g, 2, none⟩ = some (.int .i64 (((t - m : Nat) : Int) - 1)) := by
          have := B.cell 2
          simpa using this
        have HB := Lib.hid (show Blk (w2.setCell ⟨g, 2, none⟩ (.int .i64 (((t - m : Nat) : Int) - 1))) g 85 #[.slice q l.length cap, .int .i64 ((p + m + 1 : Nat) : Int), .int .i64 (((t - m : Nat) : Int) - 1), .int .i64 i] by simpa using B)
        have HO3 := Lib.hid (HO2.out.trans O)
        clear B O
        have hmt' : ((t - m : Nat) : Int) = (t : Int) - (m : Int) := by omega
        have HT := Lib.hid hmt'
        clear hmt'
        generalize hj : ((t - m : Nat) : Int) = j at c2 hw hlast HB HO3 HT HI2 ⊢
        clear hj
        have j0 : 0 ≤ j := by have := HT.out; omega
        by_cases h10 : c = 10
        · have e10 : ((c : Int) != 10) = false := by rw [h10]; simp
          have HE : Hid (Except.error (131 : Int) = r) := Lib.hid (by
            have S := HD.out
            rw [if_neg h13, if_pos (.inl h10)] at S
            have S2 := HR.out
            rw [← S] at S2
            exact S2)
          clear HD HR h10 h13
          go_wp2_with fail
          refine (must_no _ _).mono ?_
          rintro e w' ⟨rfl, rfl⟩
          go_wp2_with fail
          exact ⟨rfl, LineE.err HE.out.symm ⟨rfl, HO3.out⟩⟩
        · have e10 : ((c : Int) != 10) = true := by simp; omega
          by_cases h0 : t - m = 0
          · have e0 : decide ((0 : Int) ≤ j - 1) = false := by have := HT.out; simp; omega
            have e0' : decide ((1 : Int) ≤ j) = false := by have := HT.out; simp; omega
            have HE : Hid (Except.error (131 : Int) = r) := Lib.hid (by
              have S := HD.out
              rw [if_neg h13, if_pos (.inr h0)] at S
              have S2 := HR.out
              rw [← S] at S2
              exact S2)
            clear HD HR h10 h13 h0
            go_wp2_with fail
            refine (must_no _ _).mono ?_
            rintro e w' ⟨rfl, rfl⟩
            go_wp2_with fail
            exact ⟨rfl, LineE.err HE.out.symm ⟨rfl, HO3.out⟩⟩
          · have e0 : decide ((0 : Int) ≤ j - 1) = true := by have := HT.out; simp; omega
            have e0' : decide ((1 : Int) ≤ j) = true := by have := HT.out; simp; omega
            have HF : Hid (plainS l (l.length - (p + (m + 1))) (t - (m + 1)) (p + (m + 1)) = plainS l (l.length - p) t p) := Lib.hid (by
              have S := HD.out
              rw [if_neg h13, if_neg (by omega)] at S
              rw [← S]
              congr 1)
            have HJ := Lib.hid (show ((t - (m + 1) : Nat) : Int) = j - 1 by have := HT.out; omega)
            have hm1 : m + 1 ≤ t := by omega
            clear HD h10 h13 h0
            go_wp2_with fail
            refine (must_yes _ _).mono ?_
            rintro e w' ⟨rfl, rfl⟩
            go_wp2_with fail
            go_roundg gk'
            case rel => exact ⟨m + 1, by omega, hm1, Lib.hid (by
              rw [HJ.out]
              exact H.out.put HO3.out HB.out), HO3, HF⟩
            case measure => exact Nat.lt_succ_self _
    · have HE : Hid (Except.error (130 : Int) = r) := Lib.hid (by
        have S := HS.out
        rw [plain_end hpm] at S
        have S2 := HR.out
        rw [← S] at S2
        exact S2)
      clear HS HR
      have c1 := one_end _ _ _ _ _ _ _ _ HI.out (show ¬ ((p + m : Nat) : Int) < (l.length : Int) by omega)
      have HC := Lib.hid c1
      clear c1 hpm
      go_wp2_with fail
      refine HC.out.mono ?_
      rintro e w' ⟨rfl, e1⟩
      go_wp2_with fail
      exact ⟨rfl, LineE.err HE.out.symm ⟨rfl, HO.out.ext e1⟩⟩
theorem num_least {l : List UInt8} {b : Nat} : ∀ (k m n p : Nat) (x : Nat × Nat), (m = 0 ∨ 1 ≤ n) → numS l 1 b k m n p = .ok x → 1 ≤ x.1
  | 0, m, n, p, x, hn, h => by simp only [numS] at h; cases h
  | k + 1, m, n, p, x, hn, h => by
    simp only [numS] at h
    split at h
    · rename_i hlt
      split at h
      · rename_i hc
        cases hs : skipS l [10] (p + 1) with
        | error e => rw [hs] at h; cases h
        | ok q =>
          rw [hs] at h
          cases h
          show 1 ≤ n
          omega
      · split at h
        · cases h
        · split at h
          · rename_i h1 h2 h3
            exact num_least k (m + 1) _ (p + 1) x (.inr (by omega)) h
          · cases h
    · cases h

/-- What signed leaves. -/
def SignE (w : World) (g : Nat) (q : Option Addr) (cap : Nat) (l : List UInt8) (t i : Int) (r : Except Int (Int × Nat)) (e : Ending) (w' : World) : Prop :=
  match r with
  | .ok x => e = .returned (.int .i64 x.1) ∧ InAt w' g q cap l x.2 t i ∧ Only g w w'
  | .error c => Gave c e ∧ Only g w w'
theorem SignE.ok {w : World} {g : Nat} {q : Option Addr} {cap : Nat} {l : List UInt8} {t i : Int} {r : Except Int (Int × Nat)} {e : Ending} {w' : World} {x : Int × Nat} (hr : r = .ok x) (h : e = .returned (.int .i64 x.1) ∧ InAt w' g q cap l x.2 t i ∧ Only g w w') : SignE w g q cap l t i r e w' := by
  subst hr; exact h
theorem SignE.err {w : World} {g : Nat} {q : Option Addr} {cap : Nat} {l : List UInt8} {t i : Int} {r : Except Int (Int × Nat)} {e : Ending} {w' : World} {c : Int} (hr : r = .error c) (h : Gave c e ∧ Only g w w') : SignE w g q cap l t i r e w' := by
  subst hr; exact h
set_option maxRecDepth 100000 in
set_option maxHeartbeats 4000000 in
theorem signed_any (w : World) (g : Nat) (q : Option Addr) (cap : Nat) (l : List UInt8) (p : Nat) (t i : Int) (h : InAt w g q cap l p t i) (hp : p ≤ l.length) :
    Calls Tryd.prog 78 #[.pointer (some ⟨g, 0, none⟩)] w (SignE w g q cap l t i (signS l p)) := by
  obtain ⟨r, hr⟩ : ∃ r, signS l p = r := ⟨_, rfl⟩
  rw [hr]
  unfold signS at hr
  by_cases hlt : p < l.length
  · rw [dif_pos hlt] at hr
    have hll := h.len
    have c1 := one_ok _ _ _ _ _ _ _ _ h hlt
    have hb := UInt8.toNat_lt (l[p])
    generalize l[p].toNat = c at hr c1 hb
    have HC := Lib.hid c1
    clear c1
    by_cases h45 : c = 45
    · rw [if_pos h45] at hr
      have HR := Lib.hid hr
      subst h45
      clear hr h
      go_enter Tryd.func78, Tryd.ntmps78
      go_wp2_with fail
      refine HC.out.mono ?_
      rintro e w1 ⟨rfl, h1, o1⟩
      have HI1 := Lib.hid h1
      have HO1 := Lib.hid o1
      clear h1 o1 HC
      go_wp2_with fail
      refine (number_any 1 9223372036854775808 _ _ _ _ _ _ _ _ HI1.out (by omega) (by omega)).mono ?_
      intro e w2 hs
      have hs' : NumE w1 g q cap l t i (numS l 1 9223372036854775808 (l.length - (p + 1)) 0 0 (p + 1)) e w2 := hs
      have S := HR.out
      obtain ⟨sr, hsr⟩ : ∃ sr, numS l 1 9223372036854775808 (l.length - (p + 1)) 0 0 (p + 1) = sr := ⟨_, rfl⟩
      simp only [hsr] at S hs'
      have HN := Lib.hid hsr
      clear hs HR hsr
      cases sr with
      | error x =>
        obtain ⟨rfl, o2⟩ := hs'
        go_wp2_with fail
        exact ⟨rfl, SignE.err S.symm ⟨rfl, HO1.out.trans o2⟩⟩
      | ok x =>
        obtain ⟨rfl, i2, o2⟩ := hs'
        have hx1 := num_least _ _ _ _ _ (.inl rfl) HN.out
        have hx2 := (num_pos _ _ _ _ _ (by omega) (by omega) HN.out).1
        obtain ⟨n, p2⟩ := x
        have hx1' : 1 ≤ n := hx1
        have hx2' : n ≤ 9223372036854775808 := hx2
        have d1 : IntKind.u64.wrap ((n : Int) - 1) = (n : Int) - 1 := IntWalk.u64_in _ (by omega)
        have d2 : IntKind.i64.wrap ((n : Int) - 1) = (n : Int) - 1 := IntWalk.i64_in _ (by omega)
        have d3 : IntKind.i64.wrap (-((n : Int) - 1)) = -((n : Int) - 1) := IntWalk.i64_in _ (by omega)
        have d4 : IntKind.i64.wrap (-((n : Int) - 1) - 1) = -(n : Int) := by rw [IntWalk.i64_in _ (by omega)]; omega
        have HS := Lib.hid S
        have HI2 := Lib.hid i2
        have HO2 := Lib.hid (HO1.out.trans o2)
        clear S i2 o2 hx1 hx2 hx1' hx2' HN
        go_wp2_with fail
        go_ret
        exact SignE.ok HS.out.symm ⟨by first | rfl | exact ret_of (int_eq (by omega)), HI2.out, HO2.out⟩
    · rw [if_neg h45] at hr
      have HR := Lib.hid hr
      have e45 : ((c : Int) == 45) = false := by simp; omega
      clear hr h45
      have H := Lib.hid h
      clear h
      go_enter Tryd.func78, Tryd.ntmps78
      go_wp2_with fail
      refine HC.out.mono ?_
      rintro e w1 ⟨rfl, h1, o1⟩
      have HI1 := Lib.hid h1
      have HO1 := Lib.hid o1
      have c1 := h1.blk.cell 1
      simp only [List.getElem?_toArray, List.getElem?_cons_zero, List.getElem?_cons_succ] at c1
      have c1' : w1.cell? ⟨g, 1, none⟩ = some (.int .i64 ((p : Int) + 1)) := by rw [c1]; simp
      have z1 := h1.blk.frozen 1
      have d1 : IntKind.i64.wrap ((p : Int) + 1 - 1) = (p : Int) := by rw [IntWalk.i64_in _ (by omega)]; omega
      have d2 : IntKind.i64.wrap (p : Int) = (p : Int) := IntWalk.i64_in _ (by omega)
      have B := h1.blk.set_ 1 (.int .i64 (p : Int))
      have O : Only g w (w1.setCell ⟨g, 1, none⟩ (.int .i64 (p : Int))) := o1.set 1 _
      have HI2 := Lib.hid (H.out.put O (p' := (p : Int)) (t' := t) (i' := i) (by simpa using B))
      have HO2 := Lib.hid O
      clear h1 o1 HC B O c1
      go_wp2_with fail
      refine (number_any 0 9223372036854775807 _ _ _ _ _ _ _ _ HI2.out (by omega) (by omega)).mono ?_
      intro e w2 hs
      have hs' : NumE _ g q cap l t i (numS l 0 9223372036854775807 (l.length - p) 0 0 p) e w2 := hs
      have S := HR.out
      obtain ⟨sr, hsr⟩ : ∃ sr, numS l 0 9223372036854775807 (l.length - p) 0 0 p = sr := ⟨_, rfl⟩
      simp only [hsr] at S hs'
      have HN := Lib.hid hsr
      clear hs HR hsr
      cases sr with
      | error x =>
        obtain ⟨rfl, o2⟩ := hs'
        go_wp2_with fail
        exact ⟨rfl, SignE.err S.symm ⟨rfl, HO2.out.trans o2⟩⟩
      | ok x =>
        obtain ⟨rfl, i2, o2⟩ := hs'
        have hx2 := (num_pos _ _ _ _ _ hp (by omega) HN.out).1
        obtain ⟨n, p2⟩ := x
        have hx2' : n ≤ 9223372036854775807 := hx2
        have d4 : IntKind.i64.wrap (n : Int) = (n : Int) := IntWalk.i64_in _ (by omega)
        have HS := Lib.hid S
        have HI3 := Lib.hid i2
        have HO3 := Lib.hid (HO2.out.trans o2)
        clear S i2 o2 hx2 hx2' HN
        go_wp2_with fail
        go_ret
        exact SignE.ok HS.out.symm ⟨rfl, HI3.out, HO3.out⟩
  · rw [dif_neg hlt] at hr
    have HR := Lib.hid hr
    have HC := Lib.hid (one_end _ _ _ _ _ _ _ _ h (show ¬ (p : Int) < (l.length : Int) by omega))
    clear hr h hlt
    go_enter Tryd.func78, Tryd.ntmps78
    go_wp2_with fail
    refine HC.out.mono ?_
    rintro e w' ⟨rfl, e1⟩
    go_wp2_with fail
    exact ⟨rfl, SignE.err HR.out.symm ⟨rfl, Only.of_ext e1⟩⟩
end Go.Proofs.YtopdgmchkoaeeaaDoor
